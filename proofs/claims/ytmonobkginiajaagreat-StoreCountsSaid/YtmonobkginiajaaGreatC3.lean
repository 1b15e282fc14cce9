/- packed. -/
import Derived.Test.YtmonobkginiajaaGreatC2
import Derived.Lib.AppendStr
import Derived.Deep.QuietTactic
import Derived.BigQuiet
import Derived.Deep.LoopGhost
import Derived.Deep.DrawnRows
import Derived.Laws.ResultCell
import Derived.Test.YtmonobkginiajaaGreatC1
import Derived.Deep.RegionHeld3
set_option linter.all false
set_option maxRecDepth 100000
set_option maxHeartbeats 8000000
namespace Go.Proofs.YtmonobkginiajaaGreat.Pg
open Go.RowKit Pk
variable{w:World}
noncomputable def lz(P:Program)(T U ty:TypeId)(w:World)(s x:Value):Result Value:=(Builtin.append_ #[T,U] ty #[s,x]).run P w
theorem pe(P:Program)(ρ:Operand->Value)(dst:Option Tmp)(s x:Operand)(T U t:TypeId)(p:String)(af:Array Edge)(g:Option (Nat×Bool))(w:World):
  (execOp ρ {dst:=dst,op:= .call {callee:= .builtin .append,args:= #[s,x],argTypes:= #[T,U]},type:=t,pos:=p,after:=af,guard:=g}).run P w=(lz P T U t w (ρ s) (ρ x)).andThen λv w'=> .ok (.value v) w':=by
 simp[execOp,resolve,invoke,builtin,lz]
theorem vX(n:Nat):(Builtin.zeroCells (Value.int .u8 0).cells n).toList=List.replicate n (Value.int .u8 0):=by
 apply rB
 .simp[Builtin.zeroCells,Value.cells]
 .intro i h1 h2;simp[Builtin.zeroCells,Value.cells,Nat.mod_one]
theorem ft{P:Program}{e:TypeId}{v:Value}{n:Nat}{l:List Value}(h:aQ w e 1 v n l)
 (T U ty:TypeId)(ht:P.underlying T=some (.slice e))(hu:P.underlying U=some .string)(kg:(P.info? e).map (λi=>(i.zero,i.size,i.bytes))=some (some (.int .u8 0),1,1))
 (s:ByteArray)(xE:n+s.size<=140737488355328):
  ∃v' w',lz P T U ty w v (.string s)= .ok v' w'/\aQ w' e 1 v' (n+s.size) (l++cf s.data.toList)/\ag (ah v) w w'/\(∀g∈ah v',g∈ah v\/w.heap.size<=g):=by
 obtain⟨i,hi,hz,rI,hby⟩:=info_parts kg;have hcs:Lib.strCells s=cf s.data.toList:=rfl;have hlen:(cf s.data.toList).length=s.size:=by simp
 have mG:=h.1
 rcases h.2 with⟨rfl,rfl⟩|⟨g,cap,rest,rfl,B,hc,hm⟩
 .have tZ:l=[]:=mN (by simpa using h.1);subst tZ;obtain⟨v',w',hr,h2,h3,_⟩:=Lib.run_append_own_string (P:=P) w w.heap.size T U ty e i ht hu hi hz rI hby (.slice none 0 0) 0 [] (World.ownsRow_nil _ _ _ _) s (by unfold maxLen;omega) (by omega) (ak _);refine⟨v',w',hr,.rH h2,(ag.refl _ _).grown h3 (by simp[Value.ownBlock]),?_⟩;intro g hg
  rcases h2.2 with⟨rfl,_⟩|⟨g',cap,cur,rfl,hb,_⟩
  .simp[ah]at hg
  .simp[ah]at hg;subst hg;exact .inr hb
 .by_cases hr:n+s.size<=cap
  .have hf:=Lib.run_firstCells_string (P:=P) w 1 s;have oN:=run_storeCells_cells (P:=P) g n (cf s.data.toList) 0 w (λj hj=>by rw[B.cell];simp at hj ⊢;omega) (λj hj=>B.frozen _ (by simp at hj ⊢;omega)) (nL _);refine⟨.slice (some ⟨g,0,none⟩) (n+s.size) cap,w.setCells g n (cf s.data.toList),?_,⟨by simp;omega,.inr ⟨g,cap,rest.drop s.size,rfl,?_,by simp;omega,hm⟩⟩,(ag.refl _ _).setCells _ _ (by simp[ah]),by simp[ah]⟩
   .simp only[iE]at oN;rw[hcs]at hf;simp[lz,Builtin.append_,run_underlying ht,run_underlying hu,sizeOf,typeInfo,hi,rI,Builtin.lenOf,hr,hf,Addr.add_lit,oN]
   .have B2:=B.setCells (cf s.data.toList) n (by simp;omega);have e2:putAt (l++rest) n (cf s.data.toList)=l++cf s.data.toList++rest.drop s.size:=by
     unfold putAt;have:l.length=n:=by omega
     rw[hlen,<-this,lV,<-fY,mM]
    rwa [e2]at B2
  .have vT:=Lib.run_append_grow_string (P:=P) w T U ty e i (.int .u8 0) ht hu hi hz ⟨g,0,none⟩ n cap l (by rw[rI];exact h.1) (aZ B 0 l (by intro j u hu;rw[bt];exact bx (aR.1 hu).1▸hu)) s (by omega) (by omega) (by rw[hby];exact growslice_fits (by omega) (by omega));have Dm:=grownCap_ge w (n+s.size) cap e;have xx:=grownCap_le_maxLen w (n+s.size) cap e (by unfold maxLen;omega)
   refine⟨_,_,vT,⟨by simp;omega,.inr ⟨w.heap.size,_,List.replicate (grownCap w (n+s.size) cap e-(n+s.size)) (Value.int .u8 0),rfl,?_,by simp;omega,xx⟩⟩,(ag.refl _ _).drew.alloc _,by simp[ah]⟩;have B3:=aD.new w.drew e (l.toArray++(Lib.strCells s).toArray++Builtin.zeroCells (Value.int .u8 0).cells (grownCap w (n+s.size) cap e-(n+s.size)))
   have e3:l.toArray++(Lib.strCells s).toArray++Builtin.zeroCells (Value.int .u8 0).cells (grownCap w (n+s.size) cap e-(n+s.size))=(l++cf s.data.toList++List.replicate (grownCap w (n+s.size) cap e-(n+s.size)) (Value.int .u8 0)).toArray:=by
    apply nz.1;simp only[Array.toList_append,hcs]
    congr 1
    exact vX _
   rw[<-e3];exact B3
theorem I_all(m:Nat)(h1:m<9223372036854775808)(w:World):
  Calls Tryz.prog 88 #[.int .i64 (m:Nat)] w λe w'=>e=.returned (.string ⟨(cF m).toArray⟩)/\Below w.heap.size w w':=by
 have hN:(((m:Int)+9223372036854775808) % 18446744073709551616).toNat=m+9223372036854775808:=by omega
 have hNI:((m+9223372036854775808:Nat):Int)=(m:Int)+9223372036854775808:=by omega
 have K:=xh (fW (m+9223372036854775808) (by omega) w);rw[hNI]at K;unfold cF;rw[hN];have e1:IntKind.u64.wrap (m:Int)=(m:Int):=IntWalk.u64_in _ (by omega);have e2:IntKind.u64.wrap ((m:Int)+9223372036854775808)=(m:Int)+9223372036854775808:=IntWalk.u64_in _ (by omega);clear hN hNI;go_enter Tryz.func88,Tryz.ntmps88;go_wp2_with fail;refine K.o.mono ?_;rintro e w1 ⟨⟨v,rfl,S⟩,hb⟩;obtain⟨g,cap,rest,rfl,B,hc,_⟩:=S.form (by omega) (by omega)
 have ST:=xh (bs (P:=Tryz.prog) w1 150 9 5 Tryz.underlying150 Tryz.underlying5 Tryz.underlying9 ⟨g,0,none⟩ 8 cap (qF (m+9223372036854775808)) rfl (aZ B 0 _ (by intro j u hu;rw[bt];exact bx (aR.1 hu).1▸hu)));have HB:=xh hb;clear hb S B;go_wp2_with fail;rw[ST.o];go_wp2_with fail;go_ret;exact⟨rfl,HB.o⟩
theorem U_any(m:Nat)(h1:m<18446744073709551616)(w:World):
  Calls Tryz.prog 253 #[.int .u64 (m:Nat)] w λe w'=>e=.returned (.string ⟨(qF m).toArray⟩)/\Below w.heap.size w w':=by
 have K:=xh (fW m h1 w);go_enter Tryz.func253,Tryz.ntmps253;go_wp2_with fail;refine K.o.mono ?_;rintro e w1 ⟨⟨v,rfl,S⟩,hb⟩;obtain⟨g,cap,rest,rfl,B,hc,_⟩:=S.form (by omega) (by omega);have ST:=xh (bs (P:=Tryz.prog) w1 150 9 5 Tryz.underlying150 Tryz.underlying5 Tryz.underlying9 ⟨g,0,none⟩ 8 cap (qF m) rfl (aZ B 0 _ (by intro j u hu;rw[bt];exact bx (aR.1 hu).1▸hu)));have HB:=xh hb;clear hb S B
 go_wp2_with fail;rw[ST.o];go_wp2_with fail;go_ret;exact⟨rfl,HB.o⟩
def fL(id ep kd:Int)(s:ByteArray):Value:= .agg #[.int .i64 id,.int .i64 ep,.int .i64 kd,.string s]
def FZ(id ep kd:Int)(s:ByteArray):Array Value:= #[.int .i64 id,.int .i64 ep,.int .i64 kd,.string s]
def Al(id ep kd:Int):Bool:=decide (0<=id) && decide (0<=ep) && decide (ep<=1099511627776) && decide (0<=kd) && decide (kd<=2147483647)
theorem lZ(id ep kd:Int):Al id ep kd=true↔0<=id/\0<=ep/\ep<=1099511627776/\0<=kd/\kd<=2147483647:=by
 unfold Al;simp only[jM,decide_eq_true_eq];omega
theorem ae{W w1:World}(h:Below W.heap.size W w1)(o:Obj):Below W.heap.size W (w1.alloc o):=h.alloc h.size o
theorem kJ(id ep kd:Int)(s:ByteArray)(b:Bool)(hb:Al id ep kd=b):
  Calls Tryz.prog 222 #[fL id ep kd s] w λe w'=>e=.returned (.bool b)/\Below w.heap.size w w':=by
 have B0:=aD.new w 162 (FZ id ep kd s);have O0:=xh (ae (Below.refl w.heap.size w) (.cells (FZ id ep kd s) 162));unfold FZ at B0 O0;have c0:(w.alloc (.cells #[.int .i64 id,.int .i64 ep,.int .i64 kd,.string s] 162)).cell? ⟨w.heap.size,0,none⟩=some (.int .i64 id):=B0.ab (i:=0) rfl;have c1:(w.alloc (.cells #[.int .i64 id,.int .i64 ep,.int .i64 kd,.string s] 162)).cell? ⟨w.heap.size,1,none⟩=some (.int .i64 ep):=B0.ab (i:=1) rfl
 have c2:(w.alloc (.cells #[.int .i64 id,.int .i64 ep,.int .i64 kd,.string s] 162)).cell? ⟨w.heap.size,2,none⟩=some (.int .i64 kd):=B0.ab (i:=2) rfl;clear B0;unfold Al at hb;have HB:=xh hb;clear hb;unfold fL
 by_cases h1:0<=id
 .by_cases h2:0<=ep
  .by_cases h3:ep<=1099511627776
   .by_cases h4:0<=kd
    .by_cases h5:kd<=2147483647
     all_goals
      go_enter Tryz.func222,Tryz.ntmps222;go_wp2_with fail;go_ret;exact⟨by rw[<-HB.o];first|(simp[h1,h2,h3,h4,h5];done)|(simp[h1,h2,h3,h4,h5];omega),O0.o⟩
    .go_enter Tryz.func222,Tryz.ntmps222;go_wp2_with fail;go_ret;exact⟨by rw[<-HB.o];first|(simp[h1,h2,h3,h4];done)|(simp[h1,h2,h3,h4];omega),O0.o⟩
   .go_enter Tryz.func222,Tryz.ntmps222;go_wp2_with fail;go_ret;exact⟨by rw[<-HB.o];first|(simp[h1,h2,h3];done)|(simp[h1,h2,h3];omega),O0.o⟩
  .go_enter Tryz.func222,Tryz.ntmps222;go_wp2_with fail;go_ret;exact⟨by rw[<-HB.o];first|(simp[h1,h2];done)|(simp[h1,h2];omega),O0.o⟩
 .go_enter Tryz.func222,Tryz.ntmps222;go_wp2_with fail;go_ret;exact⟨by rw[<-HB.o];first|(simp[h1];done)|(simp[h1];omega),O0.o⟩
end Go.Proofs.YtmonobkginiajaaGreat.Pg
namespace Go.Proofs.YtmonobkginiajaaGreat.Pg
open Go.RowKit Pk
attribute [local go_sem ↓] Go.wp_at_zero Go.wp_at_succ
variable{w:World}{v:Value}{l:List UInt8}{w0 gb:Nat}
structure jR(w0:Nat)(w:World)(gb:Nat)(v:Value)(l:List UInt8):Prop where
 oO:aD w gb 150 #[v]
 Fs:aQ w 5 1 v l.length (cf l)
 own:∀g∈ah v,w0<=g
 low:w0<=gb
theorem cy{e t:TypeId}{size n b:Nat}{l:List Value}{cs:Array Value}(h:aQ w e size v n l)(B:aD w b t cs)(eG:t≠e):b∉ah v:=by
 rcases h.2 with⟨rfl,_⟩|⟨g,cap,rest,rfl,B2,_⟩
 .simp[ah]
 .intro hb;simp[ah]at hb;subst hb;exact B.mB B2 eG rfl
theorem jR.below{w':World}(h:jR w0 w gb v l)(hb:Below w.heap.size w w'):jR w0 w' gb v l:=⟨h.oO.below hb h.oO.lt,h.Fs.below hb,h.own,h.low⟩
theorem jR.grow{w1:World}{v':Value}{m:List UInt8}(h:jR w0 w gb v l)(hw:w0<=w.heap.size)(S:aQ w1 5 1 v' (l.length+m.length) (cf (l++m)))(o:ag (ah v) w w1)(fr:∀g∈ah v',g∈ah v\/w.heap.size<=g):
  w1.cell? ⟨gb,0,none⟩=some v/\w1.frozen? ⟨gb,0,none⟩=false/\jR w0 (w1.setCell ⟨gb,0,none⟩ v') gb v' (l++m)/\Below w0 w (w1.setCell ⟨gb,0,none⟩ v'):=by
 have hn:gb∉ah v:=cy h.Fs h.oO (by decide);have B1:=h.oO.only o hn;have B2:=B1.bu 0 v';have hn':gb∉ah v':=cy S B1 (by decide);have o2:=(ag.refl [gb] w1).setCell (p:=⟨gb,0,none⟩) (by simp) v';refine⟨B1.ab rfl,B1.frozen 0 (by simp),⟨B2,?_,λg hg=>(fr g hg).elim (h.own g) (λh=>au hw h),h.low⟩,?_⟩
 .rw[aU];exact S.only o2 (λg hg=>by
   intro h1
   rcases cg.1 h1 with rfl
   exact hn' hg)
 .have ow:ag (ah v++[gb]) w (w1.setCell ⟨gb,0,none⟩ v'):=(o.mono (λx hx _=>bX _ hx)).trans (o2.mono (λx hx _=>bV _ hx));exact ow.aE hw (λx hx=>(aS.1 hx).elim (h.own x) (λh1=>by rcases cg.1 h1 with rfl;exact h.low))
section
attribute [local go_sem ↓] pe
theorem re(h:jR w0 w gb v l)(hw:w0<=w.heap.size)(s:ByteArray)(hs:l.length+s.size<=1000000):
  Calls Tryz.prog 252 #[.string s,.pointer (some ⟨gb,0,none⟩)] w λe w'=>e=.returned (.tuple #[])/\(∃v',jR w0 w' gb v' (l++s.data.toList))/\Below w0 w w':=by
 have c0:w.cell? ⟨gb,0,none⟩=some v:=h.oO.ab rfl;obtain⟨v',w1,ea,S1,ow,fr⟩:=ft (P:=Tryz.prog) h.Fs 150 9 150 Tryz.underlying150 Tryz.underlying9 gD.cM s (by omega);have mS:s.data.toList.length=s.size:=by simp
 rw[<-bD,<-mS]at S1;obtain⟨V2,fs,rfl⟩:=aq S1;obtain⟨c1,z1,B2,O2⟩:=h.grow hw S1 ow fr;obtain⟨V1,nr,rfl⟩:=aq h.Fs;have EA:=xh ea;have BX:=xh B2;have OX:=xh O2;clear ea S1 ow fr B2 O2 h mS;go_enter Tryz.func252,Tryz.ntmps252;go_wp2_with fail;rw[EA.o];go_wp2_with fail
 go_end0
 exact⟨rfl,⟨_,BX.o⟩,OX.o⟩
end
def iK(id ep kd:Int)(s:List UInt8):List UInt8:=cF id++cF ep++(qF kd.toNat).drop 4++s
def dh(l:List UInt8)(n:Nat):List UInt8:=l++List.replicate (n-l.length) 0
def hJ(id ep kd:Int)(s:List UInt8):List UInt8:=gD.bA (dh (iK id ep kd s) 252)
def ct(id ep kd:Int)(s:List UInt8):List UInt8×Int:=if Al id ep kd=true then(if 232<s.length then([],4)else(hJ id ep kd s,0))else([],2)
theorem pput_no(id ep kd:Int)(s:ByteArray)(h:Al id ep kd=false):
  Calls Tryz.prog 242 #[fL id ep kd s] w λe w'=>e=.returned (.tuple #[.string ⟨#[]⟩,.int .i64 2])/\Below w.heap.size w w':=by
 have O0:=xh (ae (Below.refl w.heap.size w) (.cells #[.int .i64 id,.int .i64 ep,.int .i64 kd,.string s] 162));have B0:=aD.new w 162 #[.int .i64 id,.int .i64 ep,.int .i64 kd,.string s];have c0:=B0.ab (i:=0) rfl;have c1:=B0.ab (i:=1) rfl;have c2:=B0.ab (i:=2) rfl;have c3:=B0.ab (i:=3) rfl;have K:=xh (λw=>kJ (w:=w) id ep kd s false h);clear h B0;unfold fL at *;go_enter Tryz.func242,Tryz.ntmps242;go_wp2_with fail;refine(K.o _).mono ?_
 rintro e w1 ⟨rfl,aL⟩;have O1:=xh (ao O0.o aL);clear aL;go_wp2_with fail;go_ret2;exact⟨rfl,O1.o⟩
end Go.Proofs.YtmonobkginiajaaGreat.Pg
namespace Go.Proofs.YtmonobkginiajaaGreat.Pg
open Go.RowKit Pk
attribute [local go_sem ↓] Go.wp_at_zero Go.wp_at_succ aW
theorem dv(n:Int):(cF n).length=8:=by unfold cF qF;rw[kI]
theorem exl(u:ByteArray)(a b:Nat):(u.extract a b).data.toList=(u.data.toList.drop a).take (b-a):=by
 rw[FK,FI,zO]
theorem kK(n:Nat):(qF n).length=8:=by unfold qF;rw[kI]
theorem fu(l:List UInt8):(⟨l.toArray⟩:ByteArray).size=l.length:=by show l.toArray.size=_;simp
theorem F0{w:World}(id ep kd:Nat)(s:ByteArray)(hid:id<9223372036854775808)(Dw:ep<=1099511627776)(hkd:kd<=2147483647)(hs:s.size<=232):
  Calls Tryz.prog 242 #[fL id ep kd s] w λe w'=>e=.returned (.tuple #[.string ⟨(hJ id ep kd s.data.toList).toArray⟩,.int .i64 0])/\Below w.heap.size w w':=by
 have ef:Al id ep kd=true:=by rw[lZ];omega
 have B0:=aD.new w 162 #[.int .i64 (id:Nat),.int .i64 (ep:Nat),.int .i64 (kd:Nat),.string s];have O0:=xh (ae (Below.refl w.heap.size w) (.cells #[.int .i64 (id:Nat),.int .i64 (ep:Nat),.int .i64 (kd:Nat),.string s] 162));have KR:=xh (λw=>kJ (w:=w) id ep kd s true ef);have c0:=B0.ab (i:=0) rfl;have c1:=B0.ab (i:=1) rfl;have c2:=B0.ab (i:=2) rfl;have c3:=B0.ab (i:=3) rfl;have B0:=xh B0;have hsI:¬(232:Int)<(s.size:Int):=by omega
 unfold fL at *;go_enter Tryz.func242,Tryz.ntmps242;go_wp2_with fail;refine(KR.o _).mono ?_;rintro e w1 ⟨rfl,aL⟩;have O1:=xh (ao O0.o aL);have B1:=xh (B0.o.below aL B0.o.lt);have a1:=O1.o.size;have a2:w.heap.size<w1.heap.size:=B1.o.lt;clear c0 c1 c2 c3 aL B0 O0;have c3:=B1.o.ab (i:=3) rfl;have B2:=xh (B1.o.alloc (.cells #[.slice none 0 0] 150));have O2:=xh (ae O1.o (.cells #[.slice none 0 0] 150))
 have F2:Hid (jR w1.heap.size (w1.alloc (.cells #[.slice none 0 0] 150)) w1.heap.size (.slice none 0 0) []):=xh ⟨aD.new _ _ _,aQ.nil _ _ _,by simp[ah],ak _⟩;have z2:w1.heap.size<=(w1.alloc (.cells #[.slice none 0 0] 150)).heap.size:=by simp
 have d0:=B2.o.ab (i:=0) rfl;have KI:=xh (I_all id hid);have KE:=xh (I_all ep (by omega));have KU:=xh (U_any kd (by omega));have HS:=xh hs;go_wp2_with fail;refine(KI.o _).mono ?_;rintro e w3 ⟨rfl,dR⟩;have O3:=xh (ao O2.o dR);have B3:=xh (B2.o.below dR B2.o.lt);have F3:=xh (F2.o.below dR);have z3:=au z2 dR.size;clear d0 dR B2 O2 F2 z2 c3;go_wp2_with fail
 refine(re F3.o z3 _ (by rw[fu,dv];simp)).mono ?_;rintro e w4 ⟨rfl,⟨v4,f4⟩,fw⟩;have O4:=xh (O3.o.trans (fw.mono a1));have B4:=xh (B3.o.below fw a2);have F4:=xh f4;have z4:=au z3 fw.size;clear f4 fw O3 B3 F3 z3;have d1:=B4.o.ab (i:=1) rfl;go_wp2_with fail;refine(KE.o _).mono ?_;rintro e w5 ⟨rfl,nt⟩;have O5:=xh (ao O4.o nt);have B5:=xh (B4.o.below nt B4.o.lt);have F5:=xh (F4.o.below nt)
 have z5:=au z4 nt.size;clear nt O4 B4 F4 z4;clear d1;go_wp2_with fail;refine(re F5.o z5 _ (by simp[dv,fu])).mono ?_;rintro e w6 ⟨rfl,⟨v6,f6⟩,zE⟩;have O6:=xh (O5.o.trans (zE.mono a1));have B6:=xh (B5.o.below zE a2);have F6:=xh f6;have z6:=au z5 zE.size;clear f6 zE O5 B5 F5 z5;have d2:=B6.o.ab (i:=2) rfl;have q1:IntKind.u64.wrap (kd:Int)=(kd:Int):=IntWalk.u64_in _ (by omega)
 obtain⟨U,hU⟩:∃U:ByteArray,(⟨(qF kd).toArray⟩:ByteArray)=U:=⟨_,rfl⟩;have hU8:U.size=8:=by rw[<-hU,fu,kK]
 have xJ:(U.extract 4 8).data.toList=(qF kd).drop 4:=by
  rw[<-hU,exl];exact bJ (by rw[dg];have:=kK kd;simp[this])
 rw[hU]at KU;have HU:=xh hU;have HUL:=xh xJ;clear hU xJ;go_wp2_with fail;refine(KU.o _).mono ?_;rintro e w7 ⟨rfl,Dx⟩;have O7:=xh (ao O6.o Dx);have B7:=xh (B6.o.below Dx B6.o.lt);have F7:=xh (F6.o.below Dx);have z7:=au z6 Dx.size;clear Dx O6 B6 F6 z6;clear d2;go_wp2_with fail;refine(re F7.o z7 _ (by simp[dv,fu,oP];omega)).mono ?_;rintro e w8 ⟨rfl,⟨v8,f8⟩,Ft⟩
 have O8:=xh (O7.o.trans (Ft.mono a1));have B8:=xh (B7.o.below Ft a2);have F8:=xh f8;have z8:=au z7 Ft.size;clear f8 Ft O7 B7 F7 z7;have d3:=B8.o.ab (i:=3) rfl;go_wp2_with fail;refine(re F8.o z8 _ (by simp[dv,fu,oP];omega)).mono ?_;rintro e w9 ⟨rfl,⟨v9,f9⟩,hb9⟩;have O9:=xh (O8.o.trans (hb9.mono a1));have B9:=xh (B8.o.below hb9 a2);have F9:=xh f9;have z9:=au z8 hb9.size
 clear f9 hb9 O8 B8 F8 z8;clear d3;have L9:=xh (show([]++cF (id:Int)++cF (ep:Int)++(U.extract 4 8).data.toList++s.data.toList)=iK id ep kd s.data.toList from by rw[HUL.o,eA];rfl);have F9:=xh (show jR w1.heap.size w9 w1.heap.size v9 (iK id ep kd s.data.toList)from by have h:=F9.o;rw[<-L9.o];exact h);have HB:=xh (show(iK id ep kd s.data.toList).length=20+s.size from by unfold iK;simp[dv,kK];omega)
 obtain⟨L,hL⟩:∃L,iK (id:Int) ep kd s.data.toList=L:=⟨_,rfl⟩;rw[hL]at F9 HB;have HL:=xh hL;clear hL;clear L9 HU HUL hU8 KI KE KU KR;go_wp2_with fail
 go_loopg [37] 253 (λk lv wr=> ∃v j,20+s.size+j<=252/\253-(20+s.size+j)<=k/\Hid (jR w1.heap.size wr w1.heap.size v (L++List.replicate j 0))/\Hid (Below w.heap.size w wr)/\w1.heap.size<=wr.heap.size)
 case atStart=>exact⟨v9,0,by omega,by omega,xh (by rw[vQ,jy];exact F9.o),xh O9.o,z9⟩
 case round=>
  obtain⟨v,j,hj,hk,F,O,z⟩:=hrel;have hlen:(L++List.replicate j 0).length=20+s.size+j:=by rw[aU,HB.o,eM]
  have e0:=F.o.oO.ab (i:=0) rfl;have hsv:=F.o.Fs;rw[hlen]at hsv;obtain⟨VA,vc,rfl⟩:=aq hsv
  by_cases h':20+s.size+j<252
  .have hI:((20+s.size+j:Nat):Int)<252:=by omega
   obtain⟨v',w2,ea,S2,ow,fr⟩:=bZ (P:=Tryz.prog) hsv 150 150 (.int .u8 0) 1 Tryz.underlying150 gD.cM rfl (.int .u8 0) rfl (by unfold maxLen;omega) (by omega);obtain⟨V2,fs,rfl⟩:=aq S2;have S3:aQ w2 5 1 (.slice V2 (20+s.size+j+1) fs) ((L++List.replicate j 0).length+[(0:UInt8)].length) (cf (L++List.replicate j 0++[0])):=by
    rw[hlen,bD];exact S2
   obtain⟨c1,z1,B2,O2⟩:=F.o.grow z S3 ow fr;have z2:w1.heap.size<=(w2.setCell ⟨w1.heap.size,0,none⟩ (.slice V2 (20+s.size+j+1) fs)).heap.size:=by
    have:=ow.size;simp[World.setCell];omega
   have EA:=xh ea;have BX:=xh (show jR w1.heap.size (w2.setCell ⟨w1.heap.size,0,none⟩ (.slice V2 (20+s.size+j+1) fs)) w1.heap.size (.slice V2 (20+s.size+j+1) fs) (L++List.replicate (j+1) 0)from by
    rw[nD,<-cN];exact B2)
   have OX:=xh (O.o.trans (O2.mono a1));clear ea S2 S3 ow fr B2 O2 hsv hlen;go_wp2_with fail;rw[EA.o];go_wp2_with fail
   go_roundg (253-(20+s.size+(j+1)))
   case measure=>omega
   case rel=>exact⟨_,j+1,by omega,ak _,BX,OX,z2⟩
  .have hje:20+s.size+j=252:=by omega
   have hpad:L++List.replicate j 0=dh L 252:=by unfold dh;rw[HB.o];congr 2;omega
   rw[hpad]at F;have Fu:(dh L 252).length=252:=by rw[<-hpad,hlen,hje]
   rw[hje]at e0 hsv;rw[hpad]at hsv;clear hpad hlen;obtain⟨g,cap,rest,hv,B,_⟩:=hsv.form (by omega) (by omega);injection hv with l5 nP hv3
   subst l5 hv3;have ST:=xh (bs (P:=Tryz.prog) wr 150 9 5 Tryz.underlying150 Tryz.underlying5 Tryz.underlying9 ⟨g,0,none⟩ 252 vc (dh L 252) Fu (aZ B 0 _ (by intro j u hu;rw[bt];exact bx (aR.1 hu).1▸hu)));have KL:=xh (gD.Cv ⟨(dh L 252).toArray⟩ wr (by rw[fu,Fu];omega));have HF:=xh (show gD.bA (dh L 252)=hJ id ep kd s.data.toList from by unfold hJ;rw[HL.o])
   clear F B hsv Fu;go_wp2_with fail;rw[ST.o];go_wp2_with fail;refine KL.o.mono ?_;rintro e wz ⟨rfl,hbz⟩;have OZ:=xh (ao O.o hbz);clear hbz;go_wp2_with fail;go_ret2;exact⟨by rw[<-HF.o];rfl,OZ.o⟩
end Go.Proofs.YtmonobkginiajaaGreat.Pg
namespace Go.Proofs.YtmonobkginiajaaGreat.Pg
open Go.RowKit Pk
attribute [local go_sem ↓] Go.wp_at_zero Go.wp_at_succ
variable{w:World}{g:Nat}
structure PG where
 id:Int
 ep:Int
 kd:Int
 s:List UInt8
def PG.zero:PG:=⟨0,0,0,[]⟩
def PG.val(p:PG):Value:=fL p.id p.ep p.kd ⟨p.s.toArray⟩
def iT(l:List UInt8):PG:=⟨(k7 ((l.drop 4).take 8):Int)-9223372036854775808,(k7 ((l.drop 12).take 8):Int)-9223372036854775808,(k7 ((l.drop 20).take 4):Nat),l.drop 24⟩
def gf(l:List UInt8):PG×Int:=
 if l.length≠256 then(.zero,6)
 else if gD.gk (gD.iI (l.drop 4))≠l.take 4 then(.zero,14)
 else if Al (iT l).id (iT l).ep (iT l).kd=true then(iT l,0)else(.zero,14)
theorem Dy(l:List UInt8):k7 ([0,0,0,0]++l)=k7 l:=by simp[k7]
theorem cG{fn:Func}{p u:Tmp}{id ep kd:Int}{s:ByteArray}{tmps:Array Value}(h:fn.results= #[.cell p 162,.tmp u])(hp:tmps.getD p undef=.pointer (some ⟨g,0,none⟩))(B:aD w g 162 #[.int .i64 id,.int .i64 ep,.int .i64 kd,.string s]):
  (results fn tmps).run Tryz.prog w=.ok (.tuple #[fL id ep kd s,tmps.getD u undef]) w:=by
 have c0:=B.ab (i:=0) rfl;have c1:=B.ab (i:=1) rfl;have c2:=B.ab (i:=2) rfl;have c3:=B.ab (i:=3) rfl;rw[results_cell_tmp h,hp];clear h hp B;unfold fL;go_simp
abbrev e9:Array Value:= #[.int .i64 0,.int .i64 0,.int .i64 0,.string ⟨#[]⟩]
theorem kL{cs:Array Value}(B:aD w g 162 cs)(hc:cs.size=4)(id ep kd:Int)(s:ByteArray):
  aD ((((w.setCell ⟨g,0,none⟩ (.int .i64 id)).setCell ⟨g,1,none⟩ (.int .i64 ep)).setCell ⟨g,2,none⟩ (.int .i64 kd)).setCell ⟨g,3,none⟩ (.string s)) g 162 #[.int .i64 id,.int .i64 ep,.int .i64 kd,.string s]:=by
 obtain⟨a,b,c,d,rfl⟩:∃a b c d,cs= #[a,b,c,d]:=by
  obtain⟨l⟩:=cs
  match l,hc with
  |[a,b,c,d],_=>exact⟨a,b,c,d,rfl⟩
 exact(((B.bu 0 (.int .i64 id)).bu 1 (.int .i64 ep)).bu 2 (.int .i64 kd)).bu 3 (.string s)
theorem dJ{W:World}(h:Below W.heap.size W w)(hg:W.heap.size<=g)(id ep kd:Int)(s:ByteArray):
  Below W.heap.size W ((((w.setCell ⟨g,0,none⟩ (.int .i64 id)).setCell ⟨g,1,none⟩ (.int .i64 ep)).setCell ⟨g,2,none⟩ (.int .i64 kd)).setCell ⟨g,3,none⟩ (.string s)):=
 (((h.setCell (p:=⟨g,0,none⟩) hg _).setCell (p:=⟨g,1,none⟩) hg _).setCell (p:=⟨g,2,none⟩) hg _).setCell (p:=⟨g,3,none⟩) hg _
theorem Ga(s:ByteArray)(h:s.size≠256):
  Calls Tryz.prog 185 #[.string s] w λe w'=>e=.returned (.tuple #[PG.zero.val,.int .i64 6])/\Below w.heap.size w w':=by
 have B0:=xh (aD.new w 162 e9);have O0:=xh (ae (Below.refl w.heap.size w) (.cells e9 162));have hI:((s.size:Int) != 256)=true:=by rw[bne_iff_ne];omega
 go_enter Tryz.func185,Tryz.ntmps185;go_wp2_with fail;exact bodyPost_ret (cG rfl rfl B0.o) rfl ⟨rfl,O0.o⟩
theorem vY(s:ByteArray)(h:s.size=256)(hc:gD.gk (gD.iI (s.data.toList.drop 4))≠s.data.toList.take 4):
  Calls Tryz.prog 185 #[.string s] w λe w'=>e=.returned (.tuple #[PG.zero.val,.int .i64 14])/\Below w.heap.size w w':=by
 have B0:=xh (aD.new w 162 e9);have O0:=xh (ae (Below.refl w.heap.size w) (.cells e9 162));have hI:((s.size:Int) != 256)=false:=by rw[bne_eq_false_iff_eq];omega
 have K:=xh (λw=>gD.xI s w (by omega) (by unfold maxLen;omega) hc);clear hc;go_enter Tryz.func185,Tryz.ntmps185;go_wp2_with fail;refine(K.o _).mono ?_;rintro e w1 ⟨rfl,aL⟩;have O1:=xh (ao O0.o aL);have B1:=xh (B0.o.below aL B0.o.lt);clear aL;have z0:=B1.o.frozen 0 (by simp);have z1:=B1.o.frozen 1 (by simp);have z2:=B1.o.frozen 2 (by simp);have z3:=B1.o.frozen 3 (by simp);have c0:=B1.o.ab (i:=0) rfl;have c1:=B1.o.ab (i:=1) rfl
 have c2:=B1.o.ab (i:=2) rfl;have c3:=B1.o.ab (i:=3) rfl;have ZB:=xh (kL B1.o rfl 0 0 0 ⟨#[]⟩);have ZO:=xh (dJ O1.o (ak _) 0 0 0 ⟨#[]⟩);go_wp2_with fail;exact bodyPost_ret (cG rfl rfl ZB.o) rfl ⟨rfl,ZO.o⟩
theorem rM(s:ByteArray)(h:s.size=256)(hc:gD.gk (gD.iI (s.data.toList.drop 4))=s.data.toList.take 4)(b:Bool)(hb:Al (iT s.data.toList).id (iT s.data.toList).ep (iT s.data.toList).kd=b):
  Calls Tryz.prog 185 #[.string s] w λe w'=>e=.returned (.tuple #[if b then(iT s.data.toList).val else PG.zero.val,.int .i64 (if b then 0 else 14)])/\Below w.heap.size w w':=by
 have B0:=xh (aD.new w 162 e9);have O0:=xh (ae (Below.refl w.heap.size w) (.cells e9 162));have hI:((s.size:Int) != 256)=false:=by rw[bne_eq_false_iff_eq];omega
 have K:=λw=>gD.cut_ok s w (by omega) (by unfold maxLen;omega) hc;obtain⟨T,hT⟩:∃T,s.extract 4 s.size=T:=⟨_,rfl⟩;rw[hT]at K;have hTs:T.size=252:=by rw[<-hT,oP];omega
 have Cw:T.data.toList=s.data.toList.drop 4:=by rw[<-hT,exl];exact bJ (by simp)
 have K:=xh K;have KI:=xh (oZ T 0 (h1:=by omega) (hs:=by omega));have KJ:=xh (oZ T 8 (h1:=by omega) (hs:=by omega));obtain⟨U,hU⟩:∃U,(⟨#[0,0,0,0]⟩:ByteArray)++T.extract 16 20=U:=⟨_,rfl⟩;have Fv:U.size=8:=by rw[<-hU,xD,oP];show 4+_=8;omega
 have KU:=xh (uu U 0 (h1:=by omega) (hs:=by omega));have xJ:U.data.toList=[0,0,0,0]++(s.data.toList.drop 20).take 4:=by
  rw[<-hU,ByteArray.data_append,Array.toList_append,exl,Cw,fY]
 obtain⟨P,hP⟩:∃P,T.extract 20 252=P:=⟨_,rfl⟩;have hPl:P.data.toList=s.data.toList.drop 24:=by
  rw[<-hP,exl,Cw,fY];exact bJ (by simp;omega)
 obtain⟨N,hN⟩:∃N,k7 ((s.data.toList.drop 20).take 4)=N:=⟨_,rfl⟩;have hNlt:N<4294967296:=by
  have h1:=vW ((s.data.toList.drop 20).take 4);have h2:((s.data.toList.drop 20).take 4).length=4:=by simp;omega
  rw[h2,hN]at h1;omega
 have e1:((k7 (T.extract 0 (0+8)).data.toList:Nat):Int)-9223372036854775808=(iT s.data.toList).id:=by rw[exl,Cw];rfl
 have e2:((k7 (T.extract 8 (8+8)).data.toList:Nat):Int)-9223372036854775808=(iT s.data.toList).ep:=by rw[exl,Cw,fY];rfl
 have e3:k7 (U.extract 0 (0+8)).data.toList=N:=by
  rw[exl,zN,bJ (by simp;omega),xJ,Dy,hN]
 rw[e1]at KI;rw[e2]at KJ;rw[e3]at KU;have hkd:(iT s.data.toList).kd=(N:Int):=by rw[<-hN];rfl
 have HV:=xh (show(iT s.data.toList).val=fL (iT s.data.toList).id (iT s.data.toList).ep N P from by
  have:P=⟨(iT s.data.toList).s.toArray⟩:=by
   have:P.data=(s.data.toList.drop 24).toArray:=by rw[<-hPl]
   cases P;simp only at this;subst this;rfl
  rw[this,<-hkd];rfl)
 have i1: -9223372036854775808<=(iT s.data.toList).id/\(iT s.data.toList).id<=9223372036854775807:=by
  have h1:=vW ((s.data.toList.drop 4).take 8);have h2:((s.data.toList.drop 4).take 8).length=8:=by simp;omega
  rw[h2]at h1;show -9223372036854775808<=((k7 _:Nat):Int)-9223372036854775808/\((k7 _:Nat):Int)-9223372036854775808<=9223372036854775807;omega
 rw[hkd]at hb;generalize (iT s.data.toList).id=id at *;generalize (iT s.data.toList).ep=ep at *;generalize (iT s.data.toList).val=V at *;have q1:IntKind.i64.wrap (N:Int)=(N:Int):=IntWalk.i64_in _ (by omega);have KR:=xh (λw=>kJ (w:=w) id ep N P b hb);unfold fL at KR;clear hc hT hb e1 e2 e3 hkd hN xJ Cw hPl;go_enter Tryz.func185,Tryz.ntmps185;go_wp2_with fail;refine(K.o _).mono ?_;rintro e w1 ⟨rfl,aL⟩;have O1:=xh (ao O0.o aL)
 have B1:=xh (B0.o.below aL B0.o.lt);clear aL O0 B0;go_wp2_with fail;refine(KI.o _).mono ?_;rintro e w2 ⟨rfl,bK⟩;have O2:=xh (ao O1.o bK);have B2:=xh (B1.o.below bK B1.o.lt);clear bK O1 B1;go_wp2_with fail;refine(KJ.o _).mono ?_;rintro e w3 ⟨rfl,dR⟩;have O3:=xh (ao O2.o dR);have B3:=xh (B2.o.below dR B2.o.lt);clear dR O2 B2;go_wp2_with fail;refine(KU.o _).mono ?_;rintro e w4 ⟨rfl,fw⟩
 have O4:=xh (ae (ao O3.o fw) (.cells #[.int .i64 id,.int .i64 ep,.int .i64 (N:Int),.string P] 162));have B4:=xh ((B3.o.below fw B3.o.lt).alloc (.cells #[.int .i64 id,.int .i64 ep,.int .i64 (N:Int),.string P] 162));have P4:=xh (aD.new w4 162 #[.int .i64 id,.int .i64 ep,.int .i64 (N:Int),.string P]);clear fw O3 B3;go_wp2_with fail;generalize hw5:w4.alloc (.cells #[.int .i64 id,.int .i64 ep,.int .i64 (N:Int),.string P] 162)=w5 at *;clear hw5
 refine(KR.o _).mono ?_;rintro e w6 ⟨rfl,zE⟩;have O6:=xh (ao O4.o zE);have B6:=xh (B4.o.below zE B4.o.lt);have P6:=xh (P4.o.below zE P4.o.lt);have z0:=B6.o.frozen 0 (by simp);have z1:=B6.o.frozen 1 (by simp);have z2:=B6.o.frozen 2 (by simp);have z3:=B6.o.frozen 3 (by simp);have c0:=B6.o.ab (i:=0) rfl;have c1:=B6.o.ab (i:=1) rfl;have c2:=B6.o.ab (i:=2) rfl;have c3:=B6.o.ab (i:=3) rfl
 have p0:=P6.o.ab (i:=0) rfl;have p1:=P6.o.ab (i:=1) rfl;have p2:=P6.o.ab (i:=2) rfl;have p3:=P6.o.ab (i:=3) rfl;clear zE O4 B4 P4
 cases b
 .have ZB:=xh (kL B6.o rfl 0 0 0 ⟨#[]⟩);have ZO:=xh (dJ O6.o (ak _) 0 0 0 ⟨#[]⟩);go_wp2_with fail;exact bodyPost_ret (cG rfl rfl ZB.o) rfl ⟨rfl,ZO.o⟩
 .have ZB:=xh (kL B6.o rfl id ep N P);have ZO:=xh (dJ O6.o (ak _) id ep N P);go_wp2_with fail;exact bodyPost_ret (cG rfl rfl ZB.o) rfl ⟨by rw[HV.o];rfl,ZO.o⟩
end Go.Proofs.YtmonobkginiajaaGreat.Pg
namespace Go.Proofs.YtmonobkginiajaaGreat.Pg
open Go.RowKit Pk
attribute [local go_sem ↓] Go.wp_at_zero Go.wp_at_succ aW
end Go.Proofs.YtmonobkginiajaaGreat.Pg
namespace Go.Proofs.YtmonobkginiajaaGreat.Pg
open Go.RowKit Pk
attribute [local go_sem ↓] Go.wp_at_zero Go.wp_at_succ
variable{w:World}
theorem Gb(id ep kd:Int)(s:ByteArray)(h:Al id ep kd=true)(hs:232<s.size):
  Calls Tryz.prog 242 #[fL id ep kd s] w λe w'=>e=.returned (.tuple #[.string ⟨#[]⟩,.int .i64 4])/\Below w.heap.size w w':=by
 have O0:=xh (ae (Below.refl w.heap.size w) (.cells #[.int .i64 id,.int .i64 ep,.int .i64 kd,.string s] 162));have B0:=xh (aD.new w 162 #[.int .i64 id,.int .i64 ep,.int .i64 kd,.string s]);have c0:=B0.o.ab (i:=0) rfl;have c1:=B0.o.ab (i:=1) rfl;have c2:=B0.o.ab (i:=2) rfl;have c3:=B0.o.ab (i:=3) rfl;have K:=xh (λw=>kJ (w:=w) id ep kd s true h);have hI:(232:Int)<(s.size:Int):=by omega
 clear h;unfold fL at *;go_enter Tryz.func242,Tryz.ntmps242;go_wp2_with fail;refine(K.o _).mono ?_;rintro e w1 ⟨rfl,aL⟩;have O1:=xh (ao O0.o aL);have B1:=xh (B0.o.below aL B0.o.lt);clear aL c0 c1 c2 c3;have c3:=B1.o.ab (i:=3) rfl;go_wp2_with fail;go_ret2;exact⟨rfl,O1.o⟩
theorem Gc(N:Nat):(qF N).drop 4=[UInt8.ofNat (N / 16777216),UInt8.ofNat (N / 65536),UInt8.ofNat (N / 256),UInt8.ofNat N]:=by
 have e:qF N=[UInt8.ofNat (N / 72057594037927936),UInt8.ofNat (N / 281474976710656),UInt8.ofNat (N / 1099511627776),UInt8.ofNat (N / 4294967296),UInt8.ofNat (N / 16777216),UInt8.ofNat (N / 65536),UInt8.ofNat (N / 256),UInt8.ofNat (N / 1)]:=rfl;rw[e,Nat.div_one];rfl
theorem Gd(id ep kd:Int)(s:List UInt8)(h:s.length<=232):cF id++cF ep++(qF kd.toNat).drop 4++dh s 232=dh (iK id ep kd s) 252:=by
 unfold dh iK;have h1:(cF id++cF ep++(qF kd.toNat).drop 4++s).length=20+s.length:=by simp[dv,kK];omega
 rw[h1,<-cN]
 congr 2;omega
theorem xK(id ep kd:Int)(s:ByteArray)(hid:id<=9223372036854775807):
  Calls Tryz.prog 242 #[fL id ep kd s] w λe w'=>e=.returned (.tuple #[.string ⟨(ct id ep kd s.data.toList).1.toArray⟩,.int .i64 (ct id ep kd s.data.toList).2])/\Below w.heap.size w w':=by
 have hl:s.data.toList.length=s.size:=by simp
 unfold ct;rw[hl]
 by_cases h:Al id ep kd=true
 .rw[if_pos h]
  by_cases hs:232<s.size
  .rw[if_pos hs];exact Gb id ep kd s h hs
  .rw[if_neg hs];have hb:=(lZ id ep kd).1 h;obtain⟨a,rfl⟩:=dn hb.1;obtain⟨b,rfl⟩:=dn hb.2.1;obtain⟨c,rfl⟩:=dn hb.2.2.2.1;exact F0 a b c s (by omega) (by omega) (by omega) (by omega)
 .rw[if_neg h];exact pput_no id ep kd s (by simpa using h)
theorem Ge{w:World}(s:ByteArray):
  Calls Tryz.prog 185 #[.string s] w λe w'=>e=.returned (.tuple #[(gf s.data.toList).1.val,.int .i64 (gf s.data.toList).2])/\Below w.heap.size w w':=by
 have hl:s.data.toList.length=s.size:=by simp
 unfold gf;rw[hl]
 by_cases h:s.size=256
 .rw[if_neg (by omega)]
  by_cases hc:gD.gk (gD.iI (s.data.toList.drop 4))=s.data.toList.take 4
  .rw[if_neg (by simpa using hc)]
   by_cases hb:Al (iT s.data.toList).id (iT s.data.toList).ep (iT s.data.toList).kd=true
   .rw[if_pos hb];simpa using rM (w:=w) s h hc true hb
   .rw[if_neg hb];simpa using rM (w:=w) s h hc false (by simpa using hb)
  .rw[if_pos hc];exact vY s h hc
 .rw[if_pos h];exact Ga s h
end Go.Proofs.YtmonobkginiajaaGreat.Pg
