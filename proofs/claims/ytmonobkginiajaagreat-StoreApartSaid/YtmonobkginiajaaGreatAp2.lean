/- packed. -/
import Derived.Lib.AppendStr
import Derived.Deep.LoopGhost
import Derived.Deep.DrawnRows
import Derived.Laws.ResultCell
import Derived.Deep.RegionHeld3
import Derived.Test.YtmonobkginiajaaGreatAp1
set_option linter.all false
set_option maxRecDepth 100000
set_option maxHeartbeats 8000000
namespace Go.Proofs.YtmonobkginiajaaGreat
open Go.Proofs.Tryz
namespace Pg
open Go.RowKit Pk
variable{w:World}
noncomputable def pE(P:Program)(T U ty:TypeId)(w:World)(s x:Value):Result Value:=(Builtin.append_ #[T,U] ty #[s,x]).run P w
theorem uA(P:Program)(ρ:Operand->Value)(dst:Option Tmp)(s x:Operand)(T U t:TypeId)(p:String)(af:Array Edge)(g:Option (Nat×Bool))(w:World):
  (execOp ρ {dst:=dst,op:= .call {callee:= .builtin .append,args:= #[s,x],argTypes:= #[T,U]},type:=t,pos:=p,after:=af,guard:=g}).run P w=(pE P T U t w (ρ s) (ρ x)).andThen λv w'=> .ok (.value v) w':=by
 simp[execOp,resolve,invoke,builtin,pE]
theorem Dx(n:Nat):(Builtin.zeroCells (Value.int .u8 0).cells n).toList=List.replicate n (Value.int .u8 0):=by
 apply xZ
 .simp[Builtin.zeroCells,Value.cells]
 .intro i h1 h2;simp[Builtin.zeroCells,Value.cells,Nat.mod_one]
theorem ix{P:Program}{e:TypeId}{v:Value}{n:Nat}{l:List Value}(h:aK w e 1 v n l)
 (T U ty:TypeId)(ht:P.underlying T=some (.slice e))(hu:P.underlying U=some .string)(l6:(P.info? e).map (λi=>(i.zero,i.size,i.bytes))=some (some (.int .u8 0),1,1))
 (s:ByteArray)(Dt:n+s.size<=140737488355328):
  ∃v' w',pE P T U ty w v (.string s)= .ok v' w'/\aK w' e 1 v' (n+s.size) (l++dh s.data.toList)/\ag (ah v) w w'/\(∀g∈ah v',g∈ah v\/w.heap.size<=g):=by
 obtain⟨i,hi,hz,yg,hby⟩:=info_parts l6;have hcs:Lib.strCells s=dh s.data.toList:=rfl;have hlen:(dh s.data.toList).length=s.size:=by simp
 have oU:=h.1
 rcases h.2 with⟨rfl,rfl⟩|⟨g,cap,rest,rfl,B,hc,hm⟩
 .have wR:l=[]:=nW (by simpa using h.1);subst wR;obtain⟨v',w',hr,h2,h3,_⟩:=Lib.run_append_own_string (P:=P) w w.heap.size T U ty e i ht hu hi hz yg hby (.slice none 0 0) 0 [] (World.ownsRow_nil _ _ _ _) s (by unfold maxLen;omega) (by omega) (aj _);refine⟨v',w',hr,.yf h2,(ag.refl _ _).grown h3 (by simp[Value.ownBlock]),?_⟩;intro g hg
  rcases h2.2 with⟨rfl,_⟩|⟨g',cap,cur,rfl,hb,_⟩
  .simp[ah]at hg
  .simp[ah]at hg;subst hg;exact .inr hb
 .by_cases hr:n+s.size<=cap
  .have hf:=Lib.run_firstCells_string (P:=P) w 1 s;have ui:=run_storeCells_cells (P:=P) g n (dh s.data.toList) 0 w (λj hj=>by rw[B.cell];simp at hj ⊢;omega) (λj hj=>B.frozen _ (by simp at hj ⊢;omega)) (qF _);refine⟨.slice (some ⟨g,0,none⟩) (n+s.size) cap,w.setCells g n (dh s.data.toList),?_,⟨by simp;omega,.inr ⟨g,cap,rest.drop s.size,rfl,?_,by simp;omega,hm⟩⟩,(ag.refl _ _).setCells _ _ (by simp[ah]),by simp[ah]⟩
   .simp only[kE]at ui;rw[hcs]at hf;simp[pE,Builtin.append_,run_underlying ht,run_underlying hu,sizeOf,typeInfo,hi,yg,Builtin.lenOf,hr,hf,Addr.add_lit,ui]
   .have B2:=B.setCells (dh s.data.toList) n (by simp;omega);have e2:putAt (l++rest) n (dh s.data.toList)=l++dh s.data.toList++rest.drop s.size:=by
     unfold putAt;have:l.length=n:=by omega
     rw[hlen,<-this,qA,<-ji,rN]
    rwa [e2]at B2
  .have Du:=Lib.run_append_grow_string (P:=P) w T U ty e i (.int .u8 0) ht hu hi hz ⟨g,0,none⟩ n cap l (by rw[yg];exact h.1) (bn B 0 l (by intro j u hu;rw[bh];exact bD (aX.1 hu).1▸hu)) s (by omega) (by omega) (by rw[hby];exact growslice_fits (by omega) (by omega));have Li:=grownCap_ge w (n+s.size) cap e;have uj:=grownCap_le_maxLen w (n+s.size) cap e (by unfold maxLen;omega)
   refine⟨_,_,Du,⟨by simp;omega,.inr ⟨w.heap.size,_,List.replicate (grownCap w (n+s.size) cap e-(n+s.size)) (Value.int .u8 0),rfl,?_,by simp;omega,uj⟩⟩,(ag.refl _ _).drew.alloc _,by simp[ah]⟩;have B3:=aE.new w.drew e (l.toArray++(Lib.strCells s).toArray++Builtin.zeroCells (Value.int .u8 0).cells (grownCap w (n+s.size) cap e-(n+s.size)))
   have e3:l.toArray++(Lib.strCells s).toArray++Builtin.zeroCells (Value.int .u8 0).cells (grownCap w (n+s.size) cap e-(n+s.size))=(l++dh s.data.toList++List.replicate (grownCap w (n+s.size) cap e-(n+s.size)) (Value.int .u8 0)).toArray:=by
    apply nh.1;simp only[Qk,hcs]
    congr 1
    exact Dx _
   rw[<-e3];exact B3
theorem I_all(m:Nat)(h1:m<9223372036854775808)(w:World):
  Calls prog 88 #[.int .i64 (m:Nat)] w λe w'=>e=.returned (.string ⟨(dj m).toArray⟩)/\Below w.heap.size w w':=by
 have hN:(((m:Int)+9223372036854775808) % 18446744073709551616).toNat=m+9223372036854775808:=by omega
 have hNI:((m+9223372036854775808:Nat):Int)=(m:Int)+9223372036854775808:=by omega
 have K:=xh (jg (m+9223372036854775808) (by omega) w);rw[hNI]at K;unfold dj;rw[hN];have e1:IntKind.u64.wrap (m:Int)=(m:Int):=IntWalk.u64_in _ (by omega);have e2:IntKind.u64.wrap ((m:Int)+9223372036854775808)=(m:Int)+9223372036854775808:=IntWalk.u64_in _ (by omega);clear hN hNI;go_enter func88,ntmps88;go_wp2_with fail;refine K.o.mono ?_;rintro e w1 ⟨⟨v,rfl,S⟩,hb⟩;obtain⟨g,cap,rest,rfl,B,hc,_⟩:=S.form (by omega) (by omega)
 have ST:=xh (bZ (P:=prog) w1 150 9 5 underlying150 underlying5 underlying9 ⟨g,0,none⟩ 8 cap (vP (m+9223372036854775808)) rfl (bn B 0 _ (by intro j u hu;rw[bh];exact bD (aX.1 hu).1▸hu)));have HB:=xh hb;clear hb S B;go_wp2_with fail;rw[ST.o];go_wp2_with fail;go_ret;exact⟨rfl,HB.o⟩
theorem U_any(m:Nat)(h1:m<18446744073709551616)(w:World):
  Calls prog 253 #[.int .u64 (m:Nat)] w λe w'=>e=.returned (.string ⟨(vP m).toArray⟩)/\Below w.heap.size w w':=by
 have K:=xh (jg m h1 w);go_enter func253,ntmps253;go_wp2_with fail;refine K.o.mono ?_;rintro e w1 ⟨⟨v,rfl,S⟩,hb⟩;obtain⟨g,cap,rest,rfl,B,hc,_⟩:=S.form (by omega) (by omega);have ST:=xh (bZ (P:=prog) w1 150 9 5 underlying150 underlying5 underlying9 ⟨g,0,none⟩ 8 cap (vP m) rfl (bn B 0 _ (by intro j u hu;rw[bh];exact bD (aX.1 hu).1▸hu)));have HB:=xh hb;clear hb S B
 go_wp2_with fail;rw[ST.o];go_wp2_with fail;go_ret;exact⟨rfl,HB.o⟩
def iP(id ep kd:Int)(s:ByteArray):Value:= .agg #[.int .i64 id,.int .i64 ep,.int .i64 kd,.string s]
def QA(id ep kd:Int)(s:ByteArray):Array Value:= #[.int .i64 id,.int .i64 ep,.int .i64 kd,.string s]
def IV(id ep kd:Int):Bool:=decide (0<=id) && decide (0<=ep) && decide (ep<=1099511627776) && decide (0<=kd) && decide (kd<=2147483647)
theorem qH(id ep kd:Int):IV id ep kd=true↔0<=id/\0<=ep/\ep<=1099511627776/\0<=kd/\kd<=2147483647:=by
 unfold IV;simp only[gH,decide_eq_true_eq];omega
theorem ae{W w1:World}(h:Below W.heap.size W w1)(o:Obj):Below W.heap.size W (w1.alloc o):=h.alloc h.size o
theorem oo(id ep kd:Int)(s:ByteArray)(b:Bool)(hb:IV id ep kd=b):
  Calls prog 222 #[iP id ep kd s] w λe w'=>e=.returned (.bool b)/\Below w.heap.size w w':=by
 have B0:=aE.new w 162 (QA id ep kd s);have O0:=xh (ae (Below.refl w.heap.size w) (.cells (QA id ep kd s) 162));unfold QA at B0 O0;have c0:(w.alloc (.cells #[.int .i64 id,.int .i64 ep,.int .i64 kd,.string s] 162)).cell? ⟨w.heap.size,0,none⟩=some (.int .i64 id):=B0.ab (i:=0) rfl;have c1:(w.alloc (.cells #[.int .i64 id,.int .i64 ep,.int .i64 kd,.string s] 162)).cell? ⟨w.heap.size,1,none⟩=some (.int .i64 ep):=B0.ab (i:=1) rfl
 have c2:(w.alloc (.cells #[.int .i64 id,.int .i64 ep,.int .i64 kd,.string s] 162)).cell? ⟨w.heap.size,2,none⟩=some (.int .i64 kd):=B0.ab (i:=2) rfl;clear B0;unfold IV at hb;have HB:=xh hb;clear hb;unfold iP
 by_cases h1:0<=id
 .by_cases h2:0<=ep
  .by_cases h3:ep<=1099511627776
   .by_cases h4:0<=kd
    .by_cases h5:kd<=2147483647
     all_goals
      go_enter func222,ntmps222;go_wp2_with fail;go_ret;exact⟨by rw[<-HB.o];first|(simp[h1,h2,h3,h4,h5];done)|(simp[h1,h2,h3,h4,h5];omega),O0.o⟩
    .go_enter func222,ntmps222;go_wp2_with fail;go_ret;exact⟨by rw[<-HB.o];first|(simp[h1,h2,h3,h4];done)|(simp[h1,h2,h3,h4];omega),O0.o⟩
   .go_enter func222,ntmps222;go_wp2_with fail;go_ret;exact⟨by rw[<-HB.o];first|(simp[h1,h2,h3];done)|(simp[h1,h2,h3];omega),O0.o⟩
  .go_enter func222,ntmps222;go_wp2_with fail;go_ret;exact⟨by rw[<-HB.o];first|(simp[h1,h2];done)|(simp[h1,h2];omega),O0.o⟩
 .go_enter func222,ntmps222;go_wp2_with fail;go_ret;exact⟨by rw[<-HB.o];first|(simp[h1];done)|(simp[h1];omega),O0.o⟩
attribute [local go_sem ↓] Go.wp_at_zero Go.wp_at_succ
variable{w:World}{v:Value}{l:List UInt8}{w0 gb:Nat}
structure mN(w0:Nat)(w:World)(gb:Nat)(v:Value)(l:List UInt8):Prop where
 rp:aE w gb 150 #[v]
 ML:aK w 5 1 v l.length (dh l)
 own:∀g∈ah v,w0<=g
 low:w0<=gb
theorem cC{e t:TypeId}{size n b:Nat}{l:List Value}{cs:Array Value}(h:aK w e size v n l)(B:aE w b t cs)(eV:t≠e):b∉ah v:=by
 rcases h.2 with⟨rfl,_⟩|⟨g,cap,rest,rfl,B2,_⟩
 .simp[ah]
 .intro hb;simp[ah]at hb;subst hb;exact B.lI B2 eV rfl
theorem mN.below{w':World}(h:mN w0 w gb v l)(hb:Below w.heap.size w w'):mN w0 w' gb v l:=⟨h.rp.below hb h.rp.lt,h.ML.below hb,h.own,h.low⟩
theorem mN.grow{w1:World}{v':Value}{m:List UInt8}(h:mN w0 w gb v l)(hw:w0<=w.heap.size)(S:aK w1 5 1 v' (l.length+m.length) (dh (l++m)))(o:ag (ah v) w w1)(fr:∀g∈ah v',g∈ah v\/w.heap.size<=g):
  w1.cell? ⟨gb,0,none⟩=some v/\w1.frozen? ⟨gb,0,none⟩=false/\mN w0 (w1.setCell ⟨gb,0,none⟩ v') gb v' (l++m)/\Below w0 w (w1.setCell ⟨gb,0,none⟩ v'):=by
 have hn:gb∉ah v:=cC h.ML h.rp (by decide);have B1:=h.rp.only o hn;have B2:=B1.bG 0 v';have hn':gb∉ah v':=cC S B1 (by decide);have o2:=(ag.refl [gb] w1).setCell (p:=⟨gb,0,none⟩) (by simp) v';refine⟨B1.ab rfl,B1.frozen 0 (by simp),⟨B2,?_,λg hg=>(fr g hg).elim (h.own g) (λh=>ay hw h),h.low⟩,?_⟩
 .rw[aQ];exact S.only o2 (λg hg=>by
   intro h1
   rcases aP.1 h1 with rfl
   exact hn' hg)
 .have ow:ag (ah v++[gb]) w (w1.setCell ⟨gb,0,none⟩ v'):=(o.mono (λx hx _=>bQ _ hx)).trans (o2.mono (λx hx _=>bF _ hx));exact ow.aO hw (λx hx=>(az.1 hx).elim (h.own x) (λh1=>by rcases aP.1 h1 with rfl;exact h.low))
section
attribute [local go_sem ↓] uA
theorem qI(h:mN w0 w gb v l)(hw:w0<=w.heap.size)(s:ByteArray)(hs:l.length+s.size<=1000000):
  Calls prog 252 #[.string s,.pointer (some ⟨gb,0,none⟩)] w λe w'=>e=.returned (.tuple #[])/\(∃v',mN w0 w' gb v' (l++s.data.toList))/\Below w0 w w':=by
 have c0:w.cell? ⟨gb,0,none⟩=some v:=h.rp.ab rfl;obtain⟨v',w1,ea,S1,ow,fr⟩:=ix (P:=prog) h.ML 150 9 150 underlying150 underlying9 jG.dU s (by omega);have mM:s.data.toList.length=s.size:=by simp
 rw[<-cw,<-mM]at S1;obtain⟨V2,hJ,rfl⟩:=ao S1;obtain⟨c1,z1,B2,O2⟩:=h.grow hw S1 ow fr;obtain⟨V1,sM,rfl⟩:=ao h.ML;have EA:=xh ea;have BX:=xh B2;have OX:=xh O2;clear ea S1 ow fr B2 O2 h mM;go_enter func252,ntmps252;go_wp2_with fail;rw[EA.o];go_wp2_with fail
 go_end0
 exact⟨rfl,⟨_,BX.o⟩,OX.o⟩
end
def kO(id ep kd:Int)(s:List UInt8):List UInt8:=dj id++dj ep++(vP kd.toNat).drop 4++s
def eI(l:List UInt8)(n:Nat):List UInt8:=l++List.replicate (n-l.length) 0
def j0(id ep kd:Int)(s:List UInt8):List UInt8:=jG.cf (eI (kO id ep kd s) 252)
def dv(id ep kd:Int)(s:List UInt8):List UInt8×Int:=if IV id ep kd=true then(if 232<s.length then([],4)else(j0 id ep kd s,0))else([],2)
theorem pput_no(id ep kd:Int)(s:ByteArray)(h:IV id ep kd=false):
  Calls prog 242 #[iP id ep kd s] w λe w'=>e=.returned (.tuple #[.string ⟨#[]⟩,.int .i64 2])/\Below w.heap.size w w':=by
 have O0:=xh (ae (Below.refl w.heap.size w) (.cells #[.int .i64 id,.int .i64 ep,.int .i64 kd,.string s] 162));have B0:=aE.new w 162 #[.int .i64 id,.int .i64 ep,.int .i64 kd,.string s];have c0:=B0.ab (i:=0) rfl;have c1:=B0.ab (i:=1) rfl;have c2:=B0.ab (i:=2) rfl;have c3:=B0.ab (i:=3) rfl;have K:=xh (λw=>oo (w:=w) id ep kd s false h);clear h B0;unfold iP at *;go_enter func242,ntmps242;go_wp2_with fail;refine(K.o _).mono ?_
 rintro e w1 ⟨rfl,aJ⟩;have O1:=xh (au O0.o aJ);clear aJ;go_wp2_with fail;go_ret2;exact⟨rfl,O1.o⟩
attribute [local go_sem ↓] bq
theorem eW(n:Int):(dj n).length=8:=by unfold dj vP;rw[om]
theorem exl(u:ByteArray)(a b:Nat):(u.extract a b).data.toList=(u.data.toList.drop a).take (b-a):=by
 rw[Il,Ql,Iw]
theorem oq(n:Nat):(vP n).length=8:=by unfold vP;rw[om]
theorem iy(l:List UInt8):(⟨l.toArray⟩:ByteArray).size=l.length:=by show l.toArray.size=_;simp
theorem QC{w:World}(id ep kd:Nat)(s:ByteArray)(hid:id<9223372036854775808)(MM:ep<=1099511627776)(nR:kd<=2147483647)(hs:s.size<=232):
  Calls prog 242 #[iP id ep kd s] w λe w'=>e=.returned (.tuple #[.string ⟨(j0 id ep kd s.data.toList).toArray⟩,.int .i64 0])/\Below w.heap.size w w':=by
 have fy:IV id ep kd=true:=by rw[qH];omega
 have B0:=aE.new w 162 #[.int .i64 (id:Nat),.int .i64 (ep:Nat),.int .i64 (kd:Nat),.string s];have O0:=xh (ae (Below.refl w.heap.size w) (.cells #[.int .i64 (id:Nat),.int .i64 (ep:Nat),.int .i64 (kd:Nat),.string s] 162));have KR:=xh (λw=>oo (w:=w) id ep kd s true fy);have c0:=B0.ab (i:=0) rfl;have c1:=B0.ab (i:=1) rfl;have c2:=B0.ab (i:=2) rfl;have c3:=B0.ab (i:=3) rfl;have B0:=xh B0;have hsI:¬(232:Int)<(s.size:Int):=by omega
 unfold iP at *;go_enter func242,ntmps242;go_wp2_with fail;refine(KR.o _).mono ?_;rintro e w1 ⟨rfl,aJ⟩;have O1:=xh (au O0.o aJ);have B1:=xh (B0.o.below aJ B0.o.lt);have a1:=O1.o.size;have a2:w.heap.size<w1.heap.size:=B1.o.lt;clear c0 c1 c2 c3 aJ B0 O0;have c3:=B1.o.ab (i:=3) rfl;have B2:=xh (B1.o.alloc (.cells #[.slice none 0 0] 150));have O2:=xh (ae O1.o (.cells #[.slice none 0 0] 150))
 have F2:Hid (mN w1.heap.size (w1.alloc (.cells #[.slice none 0 0] 150)) w1.heap.size (.slice none 0 0) []):=xh ⟨aE.new _ _ _,aK.nil _ _ _,by simp[ah],aj _⟩;have z2:w1.heap.size<=(w1.alloc (.cells #[.slice none 0 0] 150)).heap.size:=by simp
 have d0:=B2.o.ab (i:=0) rfl;have KI:=xh (I_all id hid);have KE:=xh (I_all ep (by omega));have KU:=xh (U_any kd (by omega));have HS:=xh hs;go_wp2_with fail;refine(KI.o _).mono ?_;rintro e w3 ⟨rfl,cZ⟩;have O3:=xh (au O2.o cZ);have B3:=xh (B2.o.below cZ B2.o.lt);have F3:=xh (F2.o.below cZ);have z3:=ay z2 cZ.size;clear d0 cZ B2 O2 F2 z2 c3;go_wp2_with fail
 refine(qI F3.o z3 _ (by rw[iy,eW];simp)).mono ?_;rintro e w4 ⟨rfl,⟨v4,f4⟩,eM⟩;have O4:=xh (O3.o.trans (eM.mono a1));have B4:=xh (B3.o.below eM a2);have F4:=xh f4;have z4:=ay z3 eM.size;clear f4 eM O3 B3 F3 z3;have d1:=B4.o.ab (i:=1) rfl;go_wp2_with fail;refine(KE.o _).mono ?_;rintro e w5 ⟨rfl,mD⟩;have O5:=xh (au O4.o mD);have B5:=xh (B4.o.below mD B4.o.lt);have F5:=xh (F4.o.below mD)
 have z5:=ay z4 mD.size;clear mD O4 B4 F4 z4;clear d1;go_wp2_with fail;refine(qI F5.o z5 _ (by simp[eW,iy])).mono ?_;rintro e w6 ⟨rfl,⟨v6,f6⟩,xE⟩;have O6:=xh (O5.o.trans (xE.mono a1));have B6:=xh (B5.o.below xE a2);have F6:=xh f6;have z6:=ay z5 xE.size;clear f6 xE O5 B5 F5 z5;have d2:=B6.o.ab (i:=2) rfl;have q1:IntKind.u64.wrap (kd:Int)=(kd:Int):=IntWalk.u64_in _ (by omega)
 obtain⟨U,hU⟩:∃U:ByteArray,(⟨(vP kd).toArray⟩:ByteArray)=U:=⟨_,rfl⟩;have hU8:U.size=8:=by rw[<-hU,iy,oq]
 have Fs:(U.extract 4 8).data.toList=(vP kd).drop 4:=by
  rw[<-hU,exl];exact bY (by rw[de];have:=oq kd;simp[this])
 rw[hU]at KU;have HU:=xh hU;have HUL:=xh Fs;clear hU Fs;go_wp2_with fail;refine(KU.o _).mono ?_;rintro e w7 ⟨rfl,wU⟩;have O7:=xh (au O6.o wU);have B7:=xh (B6.o.below wU B6.o.lt);have F7:=xh (F6.o.below wU);have z7:=ay z6 wU.size;clear wU O6 B6 F6 z6;clear d2;go_wp2_with fail;refine(qI F7.o z7 _ (by simp[eW,iy,um];omega)).mono ?_;rintro e w8 ⟨rfl,⟨v8,f8⟩,xF⟩
 have O8:=xh (O7.o.trans (xF.mono a1));have B8:=xh (B7.o.below xF a2);have F8:=xh f8;have z8:=ay z7 xF.size;clear f8 xF O7 B7 F7 z7;have d3:=B8.o.ab (i:=3) rfl;go_wp2_with fail;refine(qI F8.o z8 _ (by simp[eW,iy,um];omega)).mono ?_;rintro e w9 ⟨rfl,⟨v9,f9⟩,hb9⟩;have O9:=xh (O8.o.trans (hb9.mono a1));have B9:=xh (B8.o.below hb9 a2);have F9:=xh f9;have z9:=ay z8 hb9.size
 clear f9 hb9 O8 B8 F8 z8;clear d3;have L9:=xh (show([]++dj (id:Int)++dj (ep:Int)++(U.extract 4 8).data.toList++s.data.toList)=kO id ep kd s.data.toList from by rw[HUL.o,cX];rfl);have F9:=xh (show mN w1.heap.size w9 w1.heap.size v9 (kO id ep kd s.data.toList)from by have h:=F9.o;rw[<-L9.o];exact h);have HB:=xh (show(kO id ep kd s.data.toList).length=20+s.size from by unfold kO;simp[eW,oq];omega)
 obtain⟨L,hL⟩:∃L,kO (id:Int) ep kd s.data.toList=L:=⟨_,rfl⟩;rw[hL]at F9 HB;have HL:=xh hL;clear hL;clear L9 HU HUL hU8 KI KE KU KR;go_wp2_with fail
 go_loopg [37] 253 (λk lv wr=> ∃v j,20+s.size+j<=252/\253-(20+s.size+j)<=k/\Hid (mN w1.heap.size wr w1.heap.size v (L++List.replicate j 0))/\Hid (Below w.heap.size w wr)/\w1.heap.size<=wr.heap.size)
 case atStart=>exact⟨v9,0,by omega,by omega,xh (by rw[Dm,jh];exact F9.o),xh O9.o,z9⟩
 case round=>
  obtain⟨v,j,hj,hk,F,O,z⟩:=hrel;have hlen:(L++List.replicate j 0).length=20+s.size+j:=by rw[aQ,HB.o,fi]
  have e0:=F.o.rp.ab (i:=0) rfl;have hsv:=F.o.ML;rw[hlen]at hsv;obtain⟨VA,vc,rfl⟩:=ao hsv
  by_cases h':20+s.size+j<252
  .have hI:((20+s.size+j:Nat):Int)<252:=by omega
   obtain⟨v',w2,ea,S2,ow,fr⟩:=cU (P:=prog) hsv 150 150 (.int .u8 0) 1 underlying150 jG.dU rfl (.int .u8 0) rfl (by unfold maxLen;omega) (by omega);obtain⟨V2,hJ,rfl⟩:=ao S2;have S3:aK w2 5 1 (.slice V2 (20+s.size+j+1) hJ) ((L++List.replicate j 0).length+[(0:UInt8)].length) (dh (L++List.replicate j 0++[0])):=by
    rw[hlen,cw];exact S2
   obtain⟨c1,z1,B2,O2⟩:=F.o.grow z S3 ow fr;have z2:w1.heap.size<=(w2.setCell ⟨w1.heap.size,0,none⟩ (.slice V2 (20+s.size+j+1) hJ)).heap.size:=by
    have:=ow.size;simp[World.setCell];omega
   have EA:=xh ea;have BX:=xh (show mN w1.heap.size (w2.setCell ⟨w1.heap.size,0,none⟩ (.slice V2 (20+s.size+j+1) hJ)) w1.heap.size (.slice V2 (20+s.size+j+1) hJ) (L++List.replicate (j+1) 0)from by
    rw[sY,<-cL];exact B2)
   have OX:=xh (O.o.trans (O2.mono a1));clear ea S2 S3 ow fr B2 O2 hsv hlen;go_wp2_with fail;rw[EA.o];go_wp2_with fail
   go_roundg (253-(20+s.size+(j+1)))
   case measure=>omega
   case rel=>exact⟨_,j+1,by omega,aj _,BX,OX,z2⟩
  .have hje:20+s.size+j=252:=by omega
   have hpad:L++List.replicate j 0=eI L 252:=by unfold eI;rw[HB.o];congr 2;omega
   rw[hpad]at F;have Dy:(eI L 252).length=252:=by rw[<-hpad,hlen,hje]
   rw[hje]at e0 hsv;rw[hpad]at hsv;clear hpad hlen;obtain⟨g,cap,rest,hv,B,_⟩:=hsv.form (by omega) (by omega);injection hv with mB pk Fc
   subst mB Fc;have ST:=xh (bZ (P:=prog) wr 150 9 5 underlying150 underlying5 underlying9 ⟨g,0,none⟩ 252 vc (eI L 252) Dy (bn B 0 _ (by intro j u hu;rw[bh];exact bD (aX.1 hu).1▸hu)));have KL:=xh (jG.Ll ⟨(eI L 252).toArray⟩ wr (by rw[iy,Dy];omega));have HF:=xh (show jG.cf (eI L 252)=j0 id ep kd s.data.toList from by unfold j0;rw[HL.o])
   clear F B hsv Dy;go_wp2_with fail;rw[ST.o];go_wp2_with fail;refine KL.o.mono ?_;rintro e wz ⟨rfl,hbz⟩;have OZ:=xh (au O.o hbz);clear hbz;go_wp2_with fail;go_ret2;exact⟨by rw[<-HF.o];rfl,OZ.o⟩
end Pg
namespace Pg
open Go.RowKit Pk
attribute [local go_sem ↓] Go.wp_at_zero Go.wp_at_succ
variable{w:World}{g:Nat}
structure PG where
 id:Int
 ep:Int
 kd:Int
 s:List UInt8
def PG.zero:PG:=⟨0,0,0,[]⟩
def PG.val(p:PG):Value:=iP p.id p.ep p.kd ⟨p.s.toArray⟩
def kZ(l:List UInt8):PG:=⟨(lJ ((l.drop 4).take 8):Int)-9223372036854775808,(lJ ((l.drop 12).take 8):Int)-9223372036854775808,(lJ ((l.drop 20).take 4):Nat),l.drop 24⟩
def jl(l:List UInt8):PG×Int:=
 if l.length≠256 then(.zero,6)
 else if jG.js (jG.kM (l.drop 4))≠l.take 4 then(.zero,14)
 else if IV (kZ l).id (kZ l).ep (kZ l).kd=true then(kZ l,0)else(.zero,14)
theorem MN(l:List UInt8):lJ ([0,0,0,0]++l)=lJ l:=by simp[lJ]
theorem dO{fn:Func}{p u:Tmp}{id ep kd:Int}{s:ByteArray}{tmps:Array Value}(h:fn.results= #[.cell p 162,.tmp u])(hp:tmps.getD p undef=.pointer (some ⟨g,0,none⟩))(B:aE w g 162 #[.int .i64 id,.int .i64 ep,.int .i64 kd,.string s]):
  (results fn tmps).run prog w=.ok (.tuple #[iP id ep kd s,tmps.getD u undef]) w:=by
 have c0:=B.ab (i:=0) rfl;have c1:=B.ab (i:=1) rfl;have c2:=B.ab (i:=2) rfl;have c3:=B.ab (i:=3) rfl;rw[results_cell_tmp h,hp];clear h hp B;unfold iP;go_simp
abbrev hX:Array Value:= #[.int .i64 0,.int .i64 0,.int .i64 0,.string ⟨#[]⟩]
theorem iU{cs:Array Value}(B:aE w g 162 cs)(hc:cs.size=4)(id ep kd:Int)(s:ByteArray):
  aE ((((w.setCell ⟨g,0,none⟩ (.int .i64 id)).setCell ⟨g,1,none⟩ (.int .i64 ep)).setCell ⟨g,2,none⟩ (.int .i64 kd)).setCell ⟨g,3,none⟩ (.string s)) g 162 #[.int .i64 id,.int .i64 ep,.int .i64 kd,.string s]:=by
 obtain⟨a,b,c,d,rfl⟩:∃a b c d,cs= #[a,b,c,d]:=by
  obtain⟨l⟩:=cs
  match l,hc with
  |[a,b,c,d],_=>exact⟨a,b,c,d,rfl⟩
 exact(((B.bG 0 (.int .i64 id)).bG 1 (.int .i64 ep)).bG 2 (.int .i64 kd)).bG 3 (.string s)
theorem fj{W:World}(h:Below W.heap.size W w)(hg:W.heap.size<=g)(id ep kd:Int)(s:ByteArray):
  Below W.heap.size W ((((w.setCell ⟨g,0,none⟩ (.int .i64 id)).setCell ⟨g,1,none⟩ (.int .i64 ep)).setCell ⟨g,2,none⟩ (.int .i64 kd)).setCell ⟨g,3,none⟩ (.string s)):=
 (((h.setCell (p:=⟨g,0,none⟩) hg _).setCell (p:=⟨g,1,none⟩) hg _).setCell (p:=⟨g,2,none⟩) hg _).setCell (p:=⟨g,3,none⟩) hg _
theorem QD(s:ByteArray)(h:s.size≠256):
  Calls prog 185 #[.string s] w λe w'=>e=.returned (.tuple #[PG.zero.val,.int .i64 6])/\Below w.heap.size w w':=by
 have B0:=xh (aE.new w 162 hX);have O0:=xh (ae (Below.refl w.heap.size w) (.cells hX 162));have hI:((s.size:Int) != 256)=true:=by rw[bne_iff_ne];omega
 go_enter func185,ntmps185;go_wp2_with fail;exact bodyPost_ret (dO rfl rfl B0.o) rfl ⟨rfl,O0.o⟩
theorem Dz(s:ByteArray)(h:s.size=256)(hc:jG.js (jG.kM (s.data.toList.drop 4))≠s.data.toList.take 4):
  Calls prog 185 #[.string s] w λe w'=>e=.returned (.tuple #[PG.zero.val,.int .i64 14])/\Below w.heap.size w w':=by
 have B0:=xh (aE.new w 162 hX);have O0:=xh (ae (Below.refl w.heap.size w) (.cells hX 162));have hI:((s.size:Int) != 256)=false:=by rw[bne_eq_false_iff_eq];omega
 have K:=xh (λw=>jG.Fp s w (by omega) (by unfold maxLen;omega) hc);clear hc;go_enter func185,ntmps185;go_wp2_with fail;refine(K.o _).mono ?_;rintro e w1 ⟨rfl,aJ⟩;have O1:=xh (au O0.o aJ);have B1:=xh (B0.o.below aJ B0.o.lt);clear aJ;have z0:=B1.o.frozen 0 (by simp);have z1:=B1.o.frozen 1 (by simp);have z2:=B1.o.frozen 2 (by simp);have z3:=B1.o.frozen 3 (by simp);have c0:=B1.o.ab (i:=0) rfl;have c1:=B1.o.ab (i:=1) rfl
 have c2:=B1.o.ab (i:=2) rfl;have c3:=B1.o.ab (i:=3) rfl;have ZB:=xh (iU B1.o rfl 0 0 0 ⟨#[]⟩);have ZO:=xh (fj O1.o (aj _) 0 0 0 ⟨#[]⟩);go_wp2_with fail;exact bodyPost_ret (dO rfl rfl ZB.o) rfl ⟨rfl,ZO.o⟩
theorem yk(s:ByteArray)(h:s.size=256)(hc:jG.js (jG.kM (s.data.toList.drop 4))=s.data.toList.take 4)(b:Bool)(hb:IV (kZ s.data.toList).id (kZ s.data.toList).ep (kZ s.data.toList).kd=b):
  Calls prog 185 #[.string s] w λe w'=>e=.returned (.tuple #[if b then(kZ s.data.toList).val else PG.zero.val,.int .i64 (if b then 0 else 14)])/\Below w.heap.size w w':=by
 have B0:=xh (aE.new w 162 hX);have O0:=xh (ae (Below.refl w.heap.size w) (.cells hX 162));have hI:((s.size:Int) != 256)=false:=by rw[bne_eq_false_iff_eq];omega
 have K:=λw=>jG.cut_ok s w (by omega) (by unfold maxLen;omega) hc;obtain⟨T,hT⟩:∃T,s.extract 4 s.size=T:=⟨_,rfl⟩;rw[hT]at K;have hTs:T.size=252:=by rw[<-hT,um];omega
 have Lm:T.data.toList=s.data.toList.drop 4:=by rw[<-hT,exl];exact bY (by simp)
 have K:=xh K;have KI:=xh (qG T 0 (h1:=by omega) (hs:=by omega));have KJ:=xh (qG T 8 (h1:=by omega) (hs:=by omega));obtain⟨U,hU⟩:∃U,(⟨#[0,0,0,0]⟩:ByteArray)++T.extract 16 20=U:=⟨_,rfl⟩;have PO:U.size=8:=by rw[<-hU,xT,um];show 4+_=8;omega
 have KU:=xh (Bk U 0 (h1:=by omega) (hs:=by omega));have Fs:U.data.toList=[0,0,0,0]++(s.data.toList.drop 20).take 4:=by
  rw[<-hU,CU,Qk,exl,Lm,ji]
 obtain⟨P,hP⟩:∃P,T.extract 20 252=P:=⟨_,rfl⟩;have hPl:P.data.toList=s.data.toList.drop 24:=by
  rw[<-hP,exl,Lm,ji];exact bY (by simp;omega)
 obtain⟨N,hN⟩:∃N,lJ ((s.data.toList.drop 20).take 4)=N:=⟨_,rfl⟩;have hNlt:N<4294967296:=by
  have h1:=uz ((s.data.toList.drop 20).take 4);have h2:((s.data.toList.drop 20).take 4).length=4:=by simp;omega
  rw[h2,hN]at h1;omega
 have e1:((lJ (T.extract 0 (0+8)).data.toList:Nat):Int)-9223372036854775808=(kZ s.data.toList).id:=by rw[exl,Lm];rfl
 have e2:((lJ (T.extract 8 (8+8)).data.toList:Nat):Int)-9223372036854775808=(kZ s.data.toList).ep:=by rw[exl,Lm,ji];rfl
 have e3:lJ (U.extract 0 (0+8)).data.toList=N:=by
  rw[exl,xX,bY (by simp;omega),Fs,MN,hN]
 rw[e1]at KI;rw[e2]at KJ;rw[e3]at KU;have nR:(kZ s.data.toList).kd=(N:Int):=by rw[<-hN];rfl
 have HV:=xh (show(kZ s.data.toList).val=iP (kZ s.data.toList).id (kZ s.data.toList).ep N P from by
  have:P=⟨(kZ s.data.toList).s.toArray⟩:=by
   have:P.data=(s.data.toList.drop 24).toArray:=by rw[<-hPl]
   cases P;simp only at this;subst this;rfl
  rw[this,<-nR];rfl)
 have i1: -9223372036854775808<=(kZ s.data.toList).id/\(kZ s.data.toList).id<=9223372036854775807:=by
  have h1:=uz ((s.data.toList.drop 4).take 8);have h2:((s.data.toList.drop 4).take 8).length=8:=by simp;omega
  rw[h2]at h1;show -9223372036854775808<=((lJ _:Nat):Int)-9223372036854775808/\((lJ _:Nat):Int)-9223372036854775808<=9223372036854775807;omega
 rw[nR]at hb;generalize (kZ s.data.toList).id=id at *;generalize (kZ s.data.toList).ep=ep at *;generalize (kZ s.data.toList).val=V at *;have q1:IntKind.i64.wrap (N:Int)=(N:Int):=IntWalk.i64_in _ (by omega);have KR:=xh (λw=>oo (w:=w) id ep N P b hb);unfold iP at KR;clear hc hT hb e1 e2 e3 nR hN Fs Lm hPl;go_enter func185,ntmps185;go_wp2_with fail;refine(K.o _).mono ?_;rintro e w1 ⟨rfl,aJ⟩;have O1:=xh (au O0.o aJ)
 have B1:=xh (B0.o.below aJ B0.o.lt);clear aJ O0 B0;go_wp2_with fail;refine(KI.o _).mono ?_;rintro e w2 ⟨rfl,bS⟩;have O2:=xh (au O1.o bS);have B2:=xh (B1.o.below bS B1.o.lt);clear bS O1 B1;go_wp2_with fail;refine(KJ.o _).mono ?_;rintro e w3 ⟨rfl,cZ⟩;have O3:=xh (au O2.o cZ);have B3:=xh (B2.o.below cZ B2.o.lt);clear cZ O2 B2;go_wp2_with fail;refine(KU.o _).mono ?_;rintro e w4 ⟨rfl,eM⟩
 have O4:=xh (ae (au O3.o eM) (.cells #[.int .i64 id,.int .i64 ep,.int .i64 (N:Int),.string P] 162));have B4:=xh ((B3.o.below eM B3.o.lt).alloc (.cells #[.int .i64 id,.int .i64 ep,.int .i64 (N:Int),.string P] 162));have P4:=xh (aE.new w4 162 #[.int .i64 id,.int .i64 ep,.int .i64 (N:Int),.string P]);clear eM O3 B3;go_wp2_with fail;generalize PU:w4.alloc (.cells #[.int .i64 id,.int .i64 ep,.int .i64 (N:Int),.string P] 162)=w5 at *;clear PU
 refine(KR.o _).mono ?_;rintro e w6 ⟨rfl,xE⟩;have O6:=xh (au O4.o xE);have B6:=xh (B4.o.below xE B4.o.lt);have P6:=xh (P4.o.below xE P4.o.lt);have z0:=B6.o.frozen 0 (by simp);have z1:=B6.o.frozen 1 (by simp);have z2:=B6.o.frozen 2 (by simp);have z3:=B6.o.frozen 3 (by simp);have c0:=B6.o.ab (i:=0) rfl;have c1:=B6.o.ab (i:=1) rfl;have c2:=B6.o.ab (i:=2) rfl;have c3:=B6.o.ab (i:=3) rfl
 have p0:=P6.o.ab (i:=0) rfl;have p1:=P6.o.ab (i:=1) rfl;have p2:=P6.o.ab (i:=2) rfl;have p3:=P6.o.ab (i:=3) rfl;clear xE O4 B4 P4
 cases b
 .have ZB:=xh (iU B6.o rfl 0 0 0 ⟨#[]⟩);have ZO:=xh (fj O6.o (aj _) 0 0 0 ⟨#[]⟩);go_wp2_with fail;exact bodyPost_ret (dO rfl rfl ZB.o) rfl ⟨rfl,ZO.o⟩
 .have ZB:=xh (iU B6.o rfl id ep N P);have ZO:=xh (fj O6.o (aj _) id ep N P);go_wp2_with fail;exact bodyPost_ret (dO rfl rfl ZB.o) rfl ⟨by rw[HV.o];rfl,ZO.o⟩
attribute [local go_sem ↓] bq
def IW(N k:Nat):List UInt8:=(List.range k).map λj=>UInt8.ofNat (N / 256 ^ (k-1-j))
theorem MP(N k:Nat):IW N (k+1)=UInt8.ofNat (N / 256 ^ k)::IW N k:=by
 unfold IW;rw[List.range_succ_eq_map,eh,jf]
 congr 1
 apply iK;intro j hj;show UInt8.ofNat (N / 256 ^ (k+1-1-(j+1)))=_
 congr 3
 omega
theorem rU_any(N:Nat)(hN:N<18446744073709551616)(w:World):
  Calls prog 188 #[.int .u64 (N:Nat)] w λe w'=>e=.returned (.string ⟨(vP N).toArray⟩)/\Below w.heap.size w w':=by
 go_enter func188,ntmps188;go_wp2_with fail
 go_loopw [0,3,4] (λnv bv iv wr=> ∃k:Nat,k<=8/\nv=.int .u64 (N / 256 ^ k:Nat)/\iv=.int .i64 k/\aK wr 5 1 bv k (dh (IW N k))/\Hid (Below w.heap.size w wr)) (λ_ _ iv _=>8-(intOf iv).toNat)
 case atStart=>exact⟨0,by omega,by simp,rfl,aK.nil _ _ _,xh (Below.refl _ _)⟩
 case round=>
  obtain⟨k,hk,rfl,rfl,S,O⟩:=hrel
  by_cases h:k<8
  .have hI:(k:Int)<8:=by omega
   obtain⟨M,hM⟩:∃M,N / 256 ^ k=M:=⟨_,rfl⟩;have hMlt:M<18446744073709551616:=by rw[<-hM];exact Nat.lt_of_le_of_lt (Nat.div_le_self _ _) hN
   have hM1:N / 256 ^ (k+1)=M / 256:=by rw[<-hM,xA,Nat.div_div_eq_div_mul]
   rw[hM];have HM:=xh (And.intro hM hM1);clear hM hM1;obtain⟨VA,vc,rfl⟩:=ao S;have hx:Value.int .u8 ((M:Int) % 256)=bv (UInt8.ofNat M):=IU M;obtain⟨v',w2,ea,S2,ow,fr⟩:=pC (P:=prog) (slc_lit wr 5 [.int .u8 ((M:Int) % 256)] (by simp;unfold maxLen;omega)) (S.alloc _) 150 150 (.int .u8 0) 1 underlying150 jG.dU rfl (by omega) (qF _) (by simp;unfold maxLen;omega) (by simp;omega);obtain⟨V2,hJ,rfl⟩:=ao S2
   have EA:=xh (show df prog 150 150 (wr.alloc (.cells #[.int .u8 ((M:Int) % 256)] 5)) (.slice (some ⟨wr.heap.size,0,none⟩) 1 1) (.slice VA k vc)= .ok (.slice V2 (k+1) hJ) w2 from by rw[qB k 1];exact ea);have SX:=xh (show aK w2 5 1 (.slice V2 (k+1) hJ) (k+1) (dh (IW N (k+1)))from by
    rw[MP,HM.o.1];rw[hx]at S2;have:dh (UInt8.ofNat M::IW N k)=[bv (UInt8.ofNat M)]++dh (IW N k):=rfl;rw[this,qB k 1];exact S2)
   have OX:=xh ((ae O.o _).trans (ow.aO (by have:=O.o.size;simp;omega) (by have:=O.o.size;intro x hx;simp[ah]at hx;omega)));clear ea S2 ow fr hx S;go_wp2_with fail;rw[EA.o];go_wp2_with fail;go_roundw
   case rel=>exact⟨k+1,by omega,by rw[HM.o.2];first|rfl|simp,by go_num,SX.o,OX⟩
   case measure=>simp[intOf];omega
  .obtain rfl:k=8:=by omega
   have ST:=xh (tr (P:=prog) S 150 9 underlying150 underlying5 underlying9);have SS:=xh S;obtain⟨VA,vc,rfl⟩:=ao S;clear S;go_wp2_with fail;rw[ST.o];go_wp2_with fail;go_ret;exact⟨by rfl,O.o⟩
theorem rI_any(m:Nat)(h1:m<9223372036854775808)(w:World):
  Calls prog 143 #[.int .i64 (m:Nat)] w λe w'=>e=.returned (.string ⟨(dj m).toArray⟩)/\Below w.heap.size w w':=by
 have hN:(((m:Int)+9223372036854775808) % 18446744073709551616).toNat=m+9223372036854775808:=by omega
 have hNI:((m+9223372036854775808:Nat):Int)=(m:Int)+9223372036854775808:=by omega
 have K:=xh (rU_any (m+9223372036854775808) (by omega) w);rw[hNI]at K;unfold dj;rw[hN];have e1:IntKind.u64.wrap (m:Int)=(m:Int):=IntWalk.u64_in _ (by omega);have e2:IntKind.u64.wrap ((m:Int)+9223372036854775808)=(m:Int)+9223372036854775808:=IntWalk.u64_in _ (by omega);clear hN hNI;go_enter func143,ntmps143;go_wp2_with fail;refine K.o.mono ?_;rintro e w1 ⟨rfl,hb⟩;have HB:=xh hb;clear hb;go_wp2_with fail;go_ret;exact⟨rfl,HB.o⟩
end Pg
namespace Pg
open Go.RowKit Pk
attribute [local go_sem ↓] Go.wp_at_zero Go.wp_at_succ
variable{w:World}
theorem QE(id ep kd:Int)(s:ByteArray)(h:IV id ep kd=true)(hs:232<s.size):
  Calls prog 242 #[iP id ep kd s] w λe w'=>e=.returned (.tuple #[.string ⟨#[]⟩,.int .i64 4])/\Below w.heap.size w w':=by
 have O0:=xh (ae (Below.refl w.heap.size w) (.cells #[.int .i64 id,.int .i64 ep,.int .i64 kd,.string s] 162));have B0:=xh (aE.new w 162 #[.int .i64 id,.int .i64 ep,.int .i64 kd,.string s]);have c0:=B0.o.ab (i:=0) rfl;have c1:=B0.o.ab (i:=1) rfl;have c2:=B0.o.ab (i:=2) rfl;have c3:=B0.o.ab (i:=3) rfl;have K:=xh (λw=>oo (w:=w) id ep kd s true h);have hI:(232:Int)<(s.size:Int):=by omega
 clear h;unfold iP at *;go_enter func242,ntmps242;go_wp2_with fail;refine(K.o _).mono ?_;rintro e w1 ⟨rfl,aJ⟩;have O1:=xh (au O0.o aJ);have B1:=xh (B0.o.below aJ B0.o.lt);clear aJ c0 c1 c2 c3;have c3:=B1.o.ab (i:=3) rfl;go_wp2_with fail;go_ret2;exact⟨rfl,O1.o⟩
theorem QF(N:Nat):(vP N).drop 4=[UInt8.ofNat (N / 16777216),UInt8.ofNat (N / 65536),UInt8.ofNat (N / 256),UInt8.ofNat N]:=by
 have e:vP N=[UInt8.ofNat (N / 72057594037927936),UInt8.ofNat (N / 281474976710656),UInt8.ofNat (N / 1099511627776),UInt8.ofNat (N / 4294967296),UInt8.ofNat (N / 16777216),UInt8.ofNat (N / 65536),UInt8.ofNat (N / 256),UInt8.ofNat (N / 1)]:=rfl;rw[e,Nat.div_one];rfl
theorem QG(id ep kd:Int)(s:List UInt8)(h:s.length<=232):dj id++dj ep++(vP kd.toNat).drop 4++eI s 232=eI (kO id ep kd s) 252:=by
 unfold eI kO;have h1:(dj id++dj ep++(vP kd.toNat).drop 4++s).length=20+s.length:=by simp[eW,oq];omega
 rw[h1,<-cL]
 congr 2;omega
theorem Ft(id ep kd:Int)(s:ByteArray)(hid:id<=9223372036854775807):
  Calls prog 242 #[iP id ep kd s] w λe w'=>e=.returned (.tuple #[.string ⟨(dv id ep kd s.data.toList).1.toArray⟩,.int .i64 (dv id ep kd s.data.toList).2])/\Below w.heap.size w w':=by
 have hl:s.data.toList.length=s.size:=by simp
 unfold dv;rw[hl]
 by_cases h:IV id ep kd=true
 .rw[if_pos h]
  by_cases hs:232<s.size
  .rw[if_pos hs];exact QE id ep kd s h hs
  .rw[if_neg hs];have hb:=(qH id ep kd).1 h;obtain⟨a,rfl⟩:=dL hb.1;obtain⟨b,rfl⟩:=dL hb.2.1;obtain⟨c,rfl⟩:=dL hb.2.2.2.1;exact QC a b c s (by omega) (by omega) (by omega) (by omega)
 .rw[if_neg h];exact pput_no id ep kd s (by simpa using h)
theorem IY(s:ByteArray)(k:Nat)(h1:k+8<=s.size)(hs:s.size<=1000000)(w:World):
  Calls prog 189 #[.string s,.int .i64 (k:Nat)] w λe w'=>e=.returned (.tuple #[.int .u64 (lJ ((s.data.toList.drop k).take 8):Nat),.int .i64 ((k:Int)+8),.int .i64 0])/\Below w.heap.size w w':=by
 have e1:¬(k:Int)<0:=by omega
 have e2:¬(s.size:Int)<(k:Int):=by omega
 have e3:IntKind.i64.wrap ((s.size:Int)-(k:Int))=(s.size:Int)-(k:Int):=IntWalk.i64_in _ (by omega);have e4:¬(s.size:Int)-(k:Int)<8:=by omega
 have HL:=xh (show((s.data.toList.drop k).take 8).length=8 from by simp;omega);go_enter func189,ntmps189;go_wp2_with fail
 go_loopw [7,8] (λnv iv wr=> ∃i:Nat,i<=8/\nv=.int .u64 (lJ (((s.data.toList.drop k).take 8).take i):Nat)/\iv=.int .i64 i/\Below w.heap.size w wr) (λ_ iv _=>8-(intOf iv).toNat)
 case atStart=>exact⟨0,by omega,by simp[lJ],rfl,Below.refl _ _⟩
 case round=>
  obtain⟨i,hi,rfl,rfl,O⟩:=hrel;have OO:=xh O;clear O
  by_cases h:i<8
  .have hI:(i:Int)<8:=by omega
   have hki:k+i<s.size:=by omega
   have hT:((s.data.toList.drop k).take 8).take (i+1)=((s.data.toList.drop k).take 8).take i++[s[k+i]]:=by
    rw[jO (by rw[HL.o];omega)]
    congr 2
    rw[IB,List.getElem_drop];rfl
   have dV:=uz (((s.data.toList.drop k).take 8).take i);have hlen:(((s.data.toList.drop k).take 8).take i).length=i:=by rw[bK,HL.o];omega
   rw[hlen]at dV;have hp:256 ^ i<=256 ^ 7:=xy (by omega) (by omega);have hB:=Fq (((s.data.toList.drop k).take 8).take i) s[k+i];rw[<-hT]at hB;have hb:=s[k+i].toNat_lt;generalize lJ (((s.data.toList.drop k).take 8).take i)=M at *;have HB:=xh hB;have hM:M<72057594037927936:=by omega
   clear hB hT hlen hp dV;have f1:IntKind.u64.wrap ((M:Int)*256)=(M:Int)*256:=IntWalk.u64_in _ (by omega);have f2:IntKind.i64.wrap ((k:Int)+(i:Int))=(k:Int)+(i:Int):=IntWalk.i64_in _ (by omega);have f3:(0:Int)<=(k:Int)+(i:Int):=by omega
   have f4:((k:Int)+(i:Int)).toNat=k+i:=by omega
   have f5:(k:Int)+(i:Int)<(s.size:Int):=by omega
   have f6:IntKind.u64.wrap (s[k+i].toNat:Int)=(s[k+i].toNat:Int):=IntWalk.u64_in _ (by omega);have f7:IntKind.u64.wrap ((M:Int)*256+(s[k+i].toNat:Int))=(M:Int)*256+(s[k+i].toNat:Int):=IntWalk.u64_in _ (by omega);go_wp2_with fail;go_roundw
   case rel=>exact⟨i+1,by omega,by rw[HB.o];simp,by go_num,OO.o⟩
   case measure=>simp[intOf];omega
  .obtain rfl:i=8:=by omega
   have hT:((s.data.toList.drop k).take 8).take 8=(s.data.toList.drop k).take 8:=bY (by rw[HL.o];exact aj _);rw[hT];have f2:IntKind.i64.wrap ((k:Int)+8)=(k:Int)+8:=IntWalk.i64_in _ (by omega);clear hT;go_wp2_with fail
   go_ret3
   exact⟨rfl,OO.o⟩
theorem IZ(s:ByteArray)(k:Nat)(h1:k+8<=s.size)(hs:s.size<=1000000)(w:World):
  Calls prog 144 #[.string s,.int .i64 (k:Nat)] w λe w'=>e=.returned (.tuple #[.int .i64 ((lJ ((s.data.toList.drop k).take 8):Int)-9223372036854775808),.int .i64 ((k:Int)+8),.int .i64 0])/\Below w.heap.size w w':=by
 have dV:=uz ((s.data.toList.drop k).take 8);rw[show((s.data.toList.drop k).take 8).length=8 by simp;omega]at dV;have KU:=xh (IY s k h1 hs w);generalize lJ ((s.data.toList.drop k).take 8)=M at *;have f1:IntKind.i64.wrap (IntKind.u64.wrap ((M:Int)-9223372036854775808))=(M:Int)-9223372036854775808:=by
  by_cases h:M<9223372036854775808
  .have:IntKind.u64.wrap ((M:Int)-9223372036854775808)=(M:Int)-9223372036854775808+18446744073709551616:=by
    unfold IntKind.wrap;simp[IntKind.bits,IntKind.signed];omega
   rw[this];unfold IntKind.wrap;simp[IntKind.bits,IntKind.signed];omega
  .rw[IntWalk.u64_in _ (by omega),IntWalk.i64_in _ (by omega)]
 go_enter func144,ntmps144;go_wp2_with fail;refine KU.o.mono ?_;rintro e w1 ⟨rfl,hb⟩;have HB:=xh hb;clear hb;go_wp2_with fail
 go_ret3
 exact⟨by first|rfl|(simp;done)|(simp;omega),HB.o⟩
theorem QH{w:World}(s:ByteArray):
  Calls prog 185 #[.string s] w λe w'=>e=.returned (.tuple #[(jl s.data.toList).1.val,.int .i64 (jl s.data.toList).2])/\Below w.heap.size w w':=by
 have hl:s.data.toList.length=s.size:=by simp
 unfold jl;rw[hl]
 by_cases h:s.size=256
 .rw[if_neg (by omega)]
  by_cases hc:jG.js (jG.kM (s.data.toList.drop 4))=s.data.toList.take 4
  .rw[if_neg (by simpa using hc)]
   by_cases hb:IV (kZ s.data.toList).id (kZ s.data.toList).ep (kZ s.data.toList).kd=true
   .rw[if_pos hb];simpa using yk (w:=w) s h hc true hb
   .rw[if_neg hb];simpa using yk (w:=w) s h hc false (by simpa using hb)
  .rw[if_pos hc];exact Dz s h hc
 .rw[if_pos h];exact QD s h
end Pg
namespace Dk
open Go.RowKit
variable{F c:List UInt8}{o n i:Nat}
def sec(F:List UInt8)(i:Nat):List UInt8:=(F.drop (64*i)).take 64
def lay(F:List UInt8)(o:Nat)(c:List UInt8):List UInt8:=F.take o++c++F.drop (o+c.length)
def fX(F:List UInt8)(i:Nat)(c:List UInt8):List UInt8:=lay F (64*i) c
theorem iz(h:o+c.length<=F.length):(lay F o c).length=F.length:=by
 simp[lay];omega
theorem tw(F:List UInt8)(o:Nat)(c:List UInt8):putAt (dh F) o (dh c)=dh (lay F o c):=by
 simp[putAt,lay,dh]
theorem l7(hF:F.length=64*n)(hi:i<n):(sec F i).length=64:=by
 simp[sec];omega
theorem ou(h:o+c.length<=F.length)(j:Nat):(lay F o c)[j]?=if o<=j/\j<o+c.length then c[j-o]? else F[j]?:=by
 unfold lay
 by_cases h1:j<o
 .rw[if_neg (by omega),cL,bD (by simp;omega),uv h1]
 .have e:(F.take o).length=o:=by simp;omega
  by_cases h2:j<o+c.length
  .rw[if_pos ⟨by omega,h2⟩,cL,dE (by omega),e,bD (by omega)]
  .rw[if_neg (by omega),dE (by simp;omega),iT]
   congr 1
   simp;omega
theorem xG(F:List UInt8)(i j:Nat):(sec F i)[j]?=if j<64 then F[64*i+j]? else none:=by
 unfold sec
 by_cases h:j<64
 .rw[if_pos h,uv h,iT]
 .rw[if_neg h,gw (by simp;omega)]
theorem Ln{k:Nat}(hF:F.length=64*n)(hi:i<n)(hc:c.length=64)(_hk:k<n):sec (fX F i c) k=if i=k then c else sec F k:=by
 apply l5;intro j;rw[xG];unfold fX;rw[ou (by omega)]
 by_cases hj:j<64
 .rw[if_pos hj,hc]
  by_cases e:i=k
  .subst e;rw[if_pos ⟨by omega,by omega⟩,if_pos rfl]
   congr 1;omega
  .rw[if_neg (by omega),if_neg e,xG,if_pos hj]
 .rw[if_neg hj]
  split
  .rw[gw (by omega)]
  .rw[xG,if_neg hj]
def j5(s:List UInt8):List UInt8:=s.take 64++List.replicate (64-s.length) 0
theorem jQ(s:List UInt8):(j5 s).length=64:=by simp[j5];omega
theorem MQ(F s:List UInt8)(hF:F.length=64*n)(hi:i<n):lay (fX F i (List.replicate 64 0)) (64*i) (s.take 64)=fX F i (j5 s):=by
 have h0:(fX F i (List.replicate 64 0)).length=F.length:=iz (by simp;omega);apply l5;intro j;have hz:=jQ s;rw[ou (by rw[h0];simp;omega)];unfold fX;rw[ou (by simp;omega),ou (by omega),hz];simp only[bK,fi]
 by_cases h1:64*i<=j/\j<64*i+min 64 s.length
 .rw[if_pos h1,if_pos (by omega),j5,bD (by simp;omega)]
 .rw[if_neg h1]
  by_cases h2:64*i<=j/\j<64*i+64
  .rw[if_pos h2,if_pos h2,j5,dE (by simp;omega),Dc,Dc];simp only[bK];rw[if_pos (by omega),if_pos (by omega)]
  .rw[if_neg h2,if_neg h2]
structure D where
 now:List UInt8
 cG:List UInt8
 loose:List Bool
 bA:Int
 calls:Int
 down:Bool
structure D.Ok(d:D)(n:Nat):Prop where
 now:d.now.length=64*n
 cG:d.cG.length=64*n
 loose:d.loose.length=n
 small:n<=4096
 bA:0<=d.bA
 calls:0<=d.calls
def D.fY(d:D):Int:=if d.down then 13 else 0
def D.jm(d:D)(n:Nat)(i:Int):Int:=if d.down then 13 else if 0<=i/\i<n then 0 else 3
def D.cy(d:D):D×Int:=
 if d.bA=0 then({d with calls:=d.calls+1},0)
 else if d.bA=1 then({d with calls:=d.calls+1,bA:=0,down:=true},13)
 else({d with calls:=d.calls+1,bA:=d.bA-1,down:=false},0)
def D.ia(d:D)(i:Nat):D:=if d.loose.getD i false then d else {d with cG:=fX d.cG i (sec d.now i),loose:=d.loose.set i true}
def D.dv(d:D)(i:Nat)(s:List UInt8):D:={d.ia i with now:=fX d.now i (j5 s)}
def D.aG(d:D)(n:Nat)(i:Int)(s:List UInt8):D×Int:=
 if d.jm n i=0 then(d.dv i.toNat s).cy else(d,d.jm n i)
def D.gj(d:D):D×Int:=
 if d.down then(d,13)else if d.cy.2=0 then({d.cy.1 with loose:=List.replicate d.loose.length false},0)else d.cy
theorem D.Ok.count{d:D}(h:d.Ok n):(d.cy).1.Ok n:=by
 have:=h.calls;have:=h.bA;unfold D.cy
 split
 .exact⟨h.now,h.cG,h.loose,h.small,h.bA,by show 0<=d.calls+1;omega⟩
 .split
  .exact⟨h.now,h.cG,h.loose,h.small,jK 0,by show 0<=d.calls+1;omega⟩
  .exact⟨h.now,h.cG,h.loose,h.small,by show 0<=d.bA-1;omega,by show 0<=d.calls+1;omega⟩
theorem D.Ok.po{d:D}(h:d.Ok n)(i:Nat)(hi:i<n):(d.ia i).Ok n:=by
 unfold D.ia
 split
 .exact h
 .have e:=l7 h.now hi;have:=h.cG;exact⟨h.now,by show(fX d.cG i (sec d.now i)).length=_;unfold fX;rw[iz (by omega)];exact h.cG,by show(d.loose.set i true).length=_;rw[bU];exact h.loose,h.small,h.bA,h.calls⟩
theorem D.QI(d:D)(i:Nat):(d.ia i).now=d.now:=by unfold D.ia;split<;>rfl
theorem D.Ok.put{d:D}(h:d.Ok n)(i:Nat)(s:List UInt8)(hi:i<n):(d.dv i s).Ok n:=by
 have hk:=h.po i hi;have e:=jQ s;have:=h.now;exact⟨by show(fX d.now i (j5 s)).length=_;unfold fX;rw[iz (by omega)];exact h.now,hk.cG,hk.loose,hk.small,hk.bA,hk.calls⟩
theorem D.Ok.write{d:D}(h:d.Ok n)(i:Int)(s:List UInt8):(d.aG n i s).1.Ok n:=by
 unfold D.aG
 split
 .rename_i ha;have hi:0<=i/\i<n:=by
   unfold D.jm at ha
   split at ha
   .cases ha
   .split at ha
    .assumption
    .cases ha
  exact(h.put i.toNat s (by omega)).count
 .exact h
theorem D.Ok.sync{d:D}(h:d.Ok n):(d.gj).1.Ok n:=by
 have hc:=h.count;unfold D.gj
 split
 .exact h
 .split
  .exact⟨hc.now,hc.cG,by show(List.replicate d.loose.length false).length=n;simp;exact h.loose,hc.small,hc.bA,hc.calls⟩
  .exact hc
variable{w:World}{g:Nat}{t:TypeId}{l:List Value}
noncomputable def Lo(w:World)(v:Value):Result Value:=(Instr.loadAt 152 v).run prog w
noncomputable def Lq(w:World)(a v:Value):Result Unit:=(Instr.storeAt 152 a v).run prog w
theorem DB(ρ:Operand->Value)(dst:Option Tmp)(x:Operand)(t:TypeId)(p:String)(af:Array Edge)(g:Option (Nat×Bool))(w:World):
  (execOp ρ {dst:=dst,op:= .load 152 x,type:=t,pos:=p,after:=af,guard:=g}).run prog w=(Lo w (ρ x)).andThen λv w'=> .ok (.value v) w':=by
 simp only[execOp,Sem.run_bind,Sem.run_pure];rfl
theorem DE(ρ:Operand->Value)(dst:Option Tmp)(x y:Operand)(t:TypeId)(p:String)(af:Array Edge)(g:Option (Nat×Bool))(w:World):
  (execOp ρ {dst:=dst,op:= .store 152 x y,type:=t,pos:=p,after:=af,guard:=g}).run prog w=(Lq w (ρ x) (ρ y)).andThen λ_ w'=> .ok .skip w':=by
 simp only[execOp,Sem.run_bind,Sem.run_pure];rfl
noncomputable def pF:Value:= .agg (dh (List.replicate 64 0)).toArray
theorem uB(ρ:Operand->Value)(dst:Option Tmp)(t:TypeId)(p:String)(af:Array Edge)(g:Option (Nat×Bool))(w:World):
  (execOp ρ {dst:=dst,op:= .build 152 #[],type:=t,pos:=p,after:=af,guard:=g}).run prog w=.ok (.value pF) w:=by kernel_rfl
theorem Fu:prog.underlying 152=some (.array 64 5):=underlying152
theorem yl:(prog.info? 152).map (·.size)=some 64:=by kernel_rfl
theorem QJ(B:aE w g t l.toArray)(o:Nat)(c:List Value)(hc:c.length=64)(h:∀j v,c[j]?=some v->l[o+j]?=some v):
  Lo w (.pointer (some ⟨g,o,none⟩))= .ok (.agg c.toArray) w:=by
 have hl:=run_loadCells_list (P:=prog) w ⟨g,o,none⟩ c (bn B o c h);rw[hc]at hl;unfold Lo Instr.loadAt;obtain⟨i,hi,hs⟩:∃i,prog.info? 152=some i/\i.size=64:=by
  have:=yl
  cases hq:prog.info? 152 with
  |none=>rw[hq]at this;cases this
  |some i=>rw[hq]at this;exact⟨i,rfl,by simpa using this⟩
 simp[Instr.sureAddr,loadVar,isAgg,run_underlying Fu,sizeOf,typeInfo,hi,hs,hl,Result.andThen]
theorem Fv(B:aE w g t l.toArray)(o:Nat)(c:List Value)(hc:c.length=64)(ho:o+64<=l.length)(h1:∀v∈c,v.oneCell'=true):
  ∃w',Lq w (.pointer (some ⟨g,o,none⟩)) (.agg c.toArray)= .ok () w'/\aE w' g t (putAt l o c).toArray/\ag [g] w w':=by
 have ui:=run_storeCells_cells (P:=prog) g o c 0 w (λj hj=>by rw[B.cell];simp;omega) (λj hj=>B.frozen _ (by simp;omega)) h1;refine⟨w.setCells g o c,?_,B.setCells c o (by omega),(ag.refl _ _).setCells c o (by simp)⟩;unfold Lq Instr.storeAt;obtain⟨i,hi,hs⟩:∃i,prog.info? 152=some i/\i.size=64:=by
  have:=yl
  cases hq:prog.info? 152 with
  |none=>rw[hq]at this;cases this
  |some i=>rw[hq]at this;exact⟨i,rfl,by simpa using this⟩
 simp only[kE]at ui;simp[Instr.sureAddr,storeVar,Value.cells,sizeOf,typeInfo,hi,hs,hc,ui,Result.andThen]
variable{w:World}{n:Nat}{d:D}
structure Loc where
 b:Nat
 gN:Nat
 gO:Nat
 gL:Nat
def Loc.fp(L:Loc):List Nat:=[L.b,L.gN,L.gO,L.gL]
def oV(l:List Bool):List Value:=l.map Value.bool
@[simp] theorem bools_length(l:List Bool):(oV l).length=l.length:=by simp[oV]
theorem Bl(l:List Bool)(k:Nat)(h:k<l.length):(oV l)[k]?=some (.bool (l.getD k false)):=by
 simp[oV,List.getD,h]
theorem MU(l:List Bool)(k:Nat)(x:Bool):(oV l).set k (.bool x)=oV (l.set k x):=by simp[oV]
def fields(L:Loc)(n:Nat)(d:D):Array Value:=
 #[.slice (some ⟨L.gN,0,none⟩) n n,.slice (some ⟨L.gO,0,none⟩) n n,.slice (some ⟨L.gL,0,none⟩) n n,.int .i64 d.bA,.int .i64 d.calls,.bool d.down]
structure aY(w:World)(L:Loc)(n:Nat)(d:D):Prop where
 hb:aE w L.b 149 (fields L n d)
 hN:aE w L.gN 152 (dh d.now).toArray
 hO:aE w L.gO 152 (dh d.cG).toArray
 hL:aE w L.gL 4 (oV d.loose).toArray
 ne:L.gN≠L.gO
 ok:d.Ok n
section
variable{w w':World}{L:Loc}{n:Nat}{d:D}{S:List Nat}
theorem aY.only(h:aY w L n d)(ho:ag S w w')(hd:∀x∈L.fp,x∉S):aY w' L n d:=
 ⟨h.hb.only ho (hd _ (by simp[Loc.fp])),h.hN.only ho (hd _ (by simp[Loc.fp])),h.hO.only ho (hd _ (by simp[Loc.fp])),h.hL.only ho (hd _ (by simp[Loc.fp])),h.ne,h.ok⟩
theorem aY.below(h:aY w L n d)(hb:Below w.heap.size w w'):aY w' L n d:=h.only (S:=[]) (.ai hb) (by simp)
theorem aY.drew(h:aY w L n d):aY w.drew L n d:=⟨h.hb,h.hN,h.hO,h.hL,h.ne,h.ok⟩
theorem aY.lt(h:aY w L n d):∀x∈L.fp,x<w.heap.size:=by
 intro x hx;simp only[Loc.fp,ar,gC,or_false]at hx
 rcases hx with rfl|rfl|rfl|rfl
 .exact h.hb.lt
 .exact h.hN.lt
 .exact h.hO.lt
 .exact h.hL.lt
theorem aY.bN(h:aY w L n d):L.b≠L.gN:=h.hb.lI h.hN (by decide)
theorem aY.bO(h:aY w L n d):L.b≠L.gO:=h.hb.lI h.hO (by decide)
theorem aY.bL(h:aY w L n d):L.b≠L.gL:=h.hb.lI h.hL (by decide)
theorem aY.LN(h:aY w L n d):L.gL≠L.gN:=h.hL.lI h.hN (by decide)
theorem aY.LO(h:aY w L n d):L.gL≠L.gO:=h.hL.lI h.hO (by decide)
theorem aY.f0(h:aY w L n d):w.cell? ⟨L.b,0,none⟩=some (.slice (some ⟨L.gN,0,none⟩) n n):=h.hb.ab rfl
theorem aY.f1(h:aY w L n d):w.cell? ⟨L.b,1,none⟩=some (.slice (some ⟨L.gO,0,none⟩) n n):=h.hb.ab rfl
theorem aY.f2(h:aY w L n d):w.cell? ⟨L.b,2,none⟩=some (.slice (some ⟨L.gL,0,none⟩) n n):=h.hb.ab rfl
theorem aY.f3(h:aY w L n d):w.cell? ⟨L.b,3,none⟩=some (.int .i64 d.bA):=h.hb.ab rfl
theorem aY.f4(h:aY w L n d):w.cell? ⟨L.b,4,none⟩=some (.int .i64 d.calls):=h.hb.ab rfl
theorem aY.f5(h:aY w L n d):w.cell? ⟨L.b,5,none⟩=some (.bool d.down):=h.hb.ab rfl
theorem aY.fz(h:aY w L n d)(i:Nat)(hi:i<6):w.frozen? ⟨L.b,i,none⟩=false:=h.hb.frozen i (by simpa [fields]using hi)
theorem aY.head(h:aY w L n d){d':D}(B:aE w' L.b 149 (fields L n d'))(ho:ag [L.b] w w')(e1:d'.now=d.now)(e2:d'.cG=d.cG)(e3:d'.loose=d.loose)(fy:d'.Ok n):aY w' L n d':=by
 refine⟨B,?_,?_,?_,h.ne,fy⟩
 .rw[e1];exact h.hN.only ho (by simp;exact λe=>h.bN e.symm)
 .rw[e2];exact h.hO.only ho (by simp;exact λe=>h.bO e.symm)
 .rw[e3];exact h.hL.only ho (by simp;exact λe=>h.bL e.symm)
end
def dp(b:Nat):Value:= .pointer (some ⟨b,0,none⟩)
theorem jt{L:Loc}(h:aY w L n d):
  Calls prog 77 #[dp L.b] w λe w'=>e=.returned (.int .i64 d.fY)/\w=w':=by
 have f5:=h.f5;unfold dp D.fY;clear h
 cases hd:d.down
 all_goals
  rw[hd]at f5;go_enter func77,ntmps77
  go_wp2
  go_ret;exact⟨rfl,rfl⟩
theorem pG{L:Loc}(h:aY w L n d)(i:Int):
  Calls prog 134 #[dp L.b,.int .i64 i] w λe w'=>e=.returned (.int .i64 (d.jm n i))/\w=w':=by
 have f0:=h.f0;have hn:=h.ok.small;have K:=xh (jt h);unfold D.fY at K;unfold D.jm;unfold dp at *;clear h
 cases hd:d.down
 .rw[hd]at K;simp only[lZ,if_false]at K ⊢
  by_cases hi:0<=i/\i<n
  .rw[if_pos hi];obtain⟨h0,h1⟩:=hi;go_enter func134,ntmps134;go_wp2_with fail;refine K.o.mono ?_;rintro e w1 ⟨rfl,rfl⟩;go_wp2_with fail;go_ret;exact⟨rfl,rfl⟩
  .rw[if_neg hi];have n9:i<0\/(¬i<0/\(n:Int)<=i):=by omega
   clear hi
   rcases n9 with h1|⟨h1,h2⟩
   all_goals
    go_enter func134,ntmps134;go_wp2_with fail;refine K.o.mono ?_;rintro e w1 ⟨rfl,rfl⟩;go_wp2_with fail;go_ret;exact⟨rfl,rfl⟩
 .rw[hd]at K;simp only[if_true]at K ⊢;go_enter func134,ntmps134;go_wp2_with fail;refine K.o.mono ?_;rintro e w1 ⟨rfl,rfl⟩;go_wp2_with fail;go_ret;exact⟨rfl,rfl⟩
theorem rW{L:Loc}(h:aY w L n d)(hc:d.calls<=4000000000000000000)(ha:d.bA<=9223372036854775807):
  Calls prog 159 #[dp L.b] w λe w'=>e=.returned (.int .i64 d.cy.2)/\aY w' L n d.cy.1/\ag [L.b] w w':=by
 have f3:=h.f3;have f4:=h.f4;have z3:=h.fz 3 (by omega);have z4:=h.fz 4 (by omega);have z5:=h.fz 5 (by omega);have f5:=h.f5;have a0:=h.ok.bA;have c0:=h.ok.calls;have H:=xh h;have B:=xh h.hb;have OKC:=xh h.ok.count;clear h
 by_cases h0:d.bA=0
 .have e1:d.cy=({d with calls:=d.calls+1},0):=by unfold D.cy;rw[if_pos h0]
  rw[e1];rw[e1]at OKC;rw[h0]at f3;have HA:=xh h0;clear h0 e1;unfold dp;go_enter func159,ntmps159;go_wp2_with fail;go_ret;have o1:ag [L.b] w (w.setCell ⟨L.b,4,none⟩ (.int .i64 (d.calls+1))):=(ag.refl _ _).setCell (by simp) _;exact⟨rfl,H.o.head (B.o.bG 4 _) o1 rfl rfl rfl OKC.o,o1⟩
 .by_cases h1:d.bA=1
  .have e1:d.cy=({d with calls:=d.calls+1,bA:=0,down:=true},13):=by unfold D.cy;rw[if_neg h0,if_pos h1]
   rw[e1];rw[e1]at OKC;rw[h1]at f3;have o1:ag [L.b] w (((w.setCell ⟨L.b,4,none⟩ (.int .i64 (d.calls+1))).setCell ⟨L.b,3,none⟩ (.int .i64 0)).setCell ⟨L.b,5,none⟩ (.bool true)):=(((ag.refl _ _).setCell (by simp) _).setCell (by simp) _).setCell (by simp) _;have D1:=H.o.head (d':={d with calls:=d.calls+1,bA:=0,down:=true}) ((((B.o.bG 4 (.int .i64 (d.calls+1))).bG 3 (.int .i64 0)).bG 5 (.bool true))) o1 rfl rfl rfl OKC.o;have K:=xh (jt D1);have D1:=xh D1
   have O1:=xh o1;clear h0 h1 e1 o1;unfold D.fY dp at *;go_enter func159,ntmps159;go_wp2_with fail;refine K.o.mono ?_;rintro e w1 ⟨rfl,rfl⟩;go_wp2_with fail;go_ret;exact⟨rfl,D1.o,O1.o⟩
  .have e1:d.cy=({d with calls:=d.calls+1,bA:=d.bA-1,down:=false},0):=by unfold D.cy;rw[if_neg h0,if_neg h1]
   rw[e1];rw[e1]at OKC;have o1:ag [L.b] w (((w.setCell ⟨L.b,4,none⟩ (.int .i64 (d.calls+1))).setCell ⟨L.b,3,none⟩ (.int .i64 (d.bA-1))).setCell ⟨L.b,5,none⟩ (.bool false)):=(((ag.refl _ _).setCell (by simp) _).setCell (by simp) _).setCell (by simp) _;have D1:=H.o.head (d':={d with calls:=d.calls+1,bA:=d.bA-1,down:=false}) ((((B.o.bG 4 (.int .i64 (d.calls+1))).bG 3 (.int .i64 (d.bA-1))).bG 5 (.bool false))) o1 rfl rfl rfl OKC.o;have K:=xh (jt D1)
   have D1:=xh D1;have O1:=xh o1;have t0:(d.bA==0)=false:=by simpa using h0
   have t1:(d.bA-1==0)=false:=by simp;omega
   clear e1 o1;unfold D.fY dp at *;go_enter func159,ntmps159;go_wp2_with fail;refine K.o.mono ?_;rintro e w1 ⟨rfl,rfl⟩;go_wp2_with fail;go_ret;exact⟨rfl,D1.o,O1.o⟩
attribute [local go_sem ↓] DB DE uB
variable{k n:Nat}{w:World}{L:Loc}
theorem Bm{F:List UInt8}(j:Nat)(v:Value)(h:(dh (sec F k))[j]?=some v):(dh F)[k*64+j]?=some v:=by
 rw[xC,xG]at h;rw[xC]
 split at h
 .rw[show k*64+j=64*k+j by omega];exact h
 .simp at h
def D.aR(d:D)(n:Nat)(i:Int):List UInt8×Int:=if d.jm n i=0 then(sec d.now i.toNat,0)else([],d.jm n i)
theorem QK{d:D}{i:Int}(h:d.jm n i=0):0<=i/\i<n:=by
 unfold D.jm at h
 split at h
 .cases h
 .split at h
  .assumption
  .cases h
theorem Bn(d:D)(n:Nat)(i:Int):d.jm n i=0\/((d.jm n i==0)=false):=by
 by_cases h:d.jm n i=0
 .exact .inl h
 .exact .inr (by simpa using h)
theorem ni{d:D}(h:aY w L n d)(i:Int):
  Calls prog 79 #[dp L.b,.int .i64 i] w λe w'=>e=.returned (.tuple #[.string ⟨(d.aR n i).1.toArray⟩,.int .i64 (d.aR n i).2])/\w=w':=by
 have K:=xh (pG h i);have hn:=h.ok.small
 rcases Bn d n i with ha|ha
 .have hi:=QK ha;have e1:d.aR n i=(sec d.now i.toNat,0):=by unfold D.aR;rw[if_pos ha]
  rw[e1];rw[ha]at K;obtain⟨k,rfl⟩:=dL hi.1;have hk:k<n:=by omega
  have f0:=h.f0;have ui:=λ(a b:Nat) (ha:64=a) (hb:k*64=b)=>(bZ (P:=prog) w 150 9 5 underlying150 underlying5 underlying9 ⟨L.gN,b,none⟩ a a (sec d.now k) (ha▸l7 h.ok.now hk) (hb▸bn h.hN (k*64) _ Bm));have HS:=xh (ui 64 (k*64) rfl rfl);clear ui e1 ha hi h;unfold dp at *;go_enter func79,ntmps79;go_wp2_with fail;refine K.o.mono ?_;rintro e w1 ⟨rfl,rfl⟩;go_wp2_with fail;rw[HS.o];go_wp2_with fail;go_ret2;exact⟨rfl,rfl⟩
 .have e1:d.aR n i=([],d.jm n i):=by unfold D.aR;rw[if_neg (by simpa using ha)]
  rw[e1];generalize d.jm n i=x at *;clear e1 h;unfold dp at *;go_enter func79,ntmps79;go_wp2_with fail;refine K.o.mono ?_;rintro e w1 ⟨rfl,rfl⟩;go_wp2_with fail;go_ret2;exact⟨rfl,rfl⟩
theorem MV(F:List UInt8)(s:ByteArray)(hF:F.length=64*n)(hk:k<n):
  putAt (putAt (dh F) (k*64) (dh (List.replicate 64 0))) (k*64) (dh (s.data.toList.take (Nat.min s.size 64)))=dh (fX F k (j5 s.data.toList)):=by
 rw[tw,tw,<-MQ F s.data.toList hF hk];have e:s.data.toList.take (Nat.min s.size 64)=s.data.toList.take 64:=by
  rcases Nat.le_total s.size 64 with h|h
  .rw[show Nat.min s.size 64=s.size from xr h,bY (by simp),bY (by simpa using h)]
  .rw[show Nat.min s.size 64=64 from Nat.min_eq_right h]
 rw[e,show k*64=64*k from tg _ _];rfl
theorem oe:(prog.info? 5).map (·.size)=some 1:=by kernel_rfl
theorem Lr{d:D}(h:aY w L n d)(k:Nat)(hk:k<n)(s:ByteArray):
  ∃w1,Lq w (.pointer (some ⟨L.gN,k*64,none⟩)) pF=.ok () w1/\ag [L.gN] w w1/\
   ∃w2,(Builtin.copy_ #[150,9] 3 #[.slice (some ⟨L.gN,k*64,none⟩) 64 64,.string s]).run prog w1=.ok (goInt (Nat.min s.size 64)) w2/\aY w2 L n {d with now:=fX d.now k (j5 s.data.toList)}/\ag [L.gN] w w2:=by
 have hlen:=h.ok.now;obtain⟨w1,e1,B1,o1⟩:=Fv h.hN (k*64) (dh (List.replicate 64 0)) (by simp) (by simp;omega) (qF _);obtain⟨w2,e2,B2,o2⟩:=mL (P:=prog) B1 150 9 3 5 (k*64) 64 64 s (Nat.min s.size 64) underlying150 oe rfl (by rw[jP (by simp;omega)];have hm:Nat.min s.size 64<=64:=Nat.min_le_right _ _;rw[jk,hlen];omega);rw[MV _ _ hlen hk]at B2;have o:=o1.trans o2
 refine⟨w1,e1,o1,w2,e2,⟨h.hb.only o (by simp;exact h.bN),B2,h.hO.only o (by simp;exact λe=>h.ne e.symm),h.hL.only o (by simp;exact h.LN),h.ne,?_⟩,o⟩;have:=jQ s.data.toList;exact⟨by show(fX d.now k _).length=_;unfold fX;rw[iz (by omega)];exact hlen,h.ok.cG,h.ok.loose,h.ok.small,h.ok.bA,h.ok.calls⟩
theorem QL{w':World}{d:D}(h:aY w L n d)(o:ag [L.gN] w w'):w'.cell? ⟨L.b,0,none⟩=some (.slice (some ⟨L.gN,0,none⟩) n n):=
 (o.cell h.hb.lt (by simp;exact h.bN)).trans h.f0
theorem MW{d:D}(h:aY w L n d)(k:Nat)(hk:k<n)(s:ByteArray)(ha:d.jm n k=0)(hc:d.calls<=4000000000000000000)(hr:d.bA<=9223372036854775807)(hl:d.loose.getD k false=false):
  Calls prog 103 #[dp L.b,.int .i64 k,.string s] w λe w'=>e=.returned (.int .i64 ((d.dv k s.data.toList).cy).2)/\aY w' L n ((d.dv k s.data.toList).cy).1/\ag L.fp w w':=by
 have K:=xh (pG h k);have hn:=h.ok.small;rw[ha]at K;have f0:=h.f0;have f1:=h.f1;have f2:=h.f2;have cl:w.cell? ⟨L.gL,k,none⟩=some (.bool false):=by
  rw[<-hl];refine h.hL.ab ?_;rw[cM,Bl _ _ (by rw[h.ok.loose];exact hk)]
 have ym:d.ia k={d with cG:=fX d.cG k (sec d.now k),loose:=d.loose.set k true}:=by unfold D.ia;rw[hl];rfl
 have rX:d.dv k s.data.toList={d.ia k with now:=fX (d.ia k).now k (j5 s.data.toList)}:=by unfold D.dv;rw[D.QI]
 have DC:(d.ia k).calls=d.calls:=by rw[ym]
 have DA:(d.ia k).bA=d.bA:=by rw[ym]
 have fy:=h.ok.po k hk;rw[rX];have hld:Lo w.drew (.pointer (some ⟨L.gN,k*64,none⟩))= .ok (.agg (dh (sec d.now k)).toArray) w.drew:=QJ h.hN.drew (k*64) _ (by rw[jk,l7 h.ok.now hk]) Bm;obtain⟨w2,ui,B2,o2⟩:=Fv h.hO.drew (k*64) (dh (sec d.now k)) (by rw[jk,l7 h.ok.now hk]) (by have:=h.ok.cG;simp;omega) (qF _);have cl2:w2.cell? ⟨L.gL,k,none⟩=some (.bool false):=(o2.cell (dN cl) (by simp;exact h.LO)).trans cl
 have fl2:w2.frozen? ⟨L.gL,k,none⟩=false:=(o2.frozen (dN cl) (by simp;exact h.LO)).trans (h.hL.frozen k (by simp;rw[h.ok.loose];exact hk));have o2':ag L.fp w w2:=⟨o2.os,o2.tape,o2.output,o2.size,λb hb hn=>o2.block b hb (by simp[Loc.fp]at hn ⊢;exact hn.2.2.1)⟩;have hD:aY (w2.setCell ⟨L.gL,k,none⟩ (.bool true)) L n (d.ia k):=by
  rw[ym]at fy ⊢;have B3:=((h.hL.drew.only o2 (by simp;exact h.LO)).bG k (.bool true));rw[qx,MU]at B3;rw[tw]at B2;refine⟨(h.hb.drew.only o2 (by simp;exact h.bO)).aU (by exact h.bL) _,(h.hN.drew.only o2 (by simp;exact h.ne)).aU (by exact λe=>h.LN e.symm) _,?_,B3,h.ne,fy⟩;have:=B2.aU (p:=⟨L.gL,k,none⟩) (λe=>h.LO e.symm) (.bool true)
  rwa [show k*64=64*k from tg _ _]at this
 have oD:ag L.fp w (w2.setCell ⟨L.gL,k,none⟩ (.bool true)):=o2'.setCell (by simp[Loc.fp]) _;clear ym rX fy ha B2 o2 o2' h;generalize d.ia k=d1 at *;unfold dp at *;go_enter func103,ntmps103;go_wp2_with fail;refine K.o.mono ?_;rintro e w1 ⟨rfl,rfl⟩;go_wp2_with fail
 go_region
 clear hld ui f0 f1 f2 cl cl2 fl2;generalize w2.setCell ⟨L.gL,k,none⟩ (.bool true)=w3 at *;have f0':=hD.f0;obtain⟨w4,st4,o4,w5,cp5,D5,o5⟩:=Lr hD k hk s;have f04:=QL hD o4;have CP:=xh cp5;have KC:=xh (rW D5 (by rw[DC];exact hc) (by rw[DA];exact hr));have HD:=xh D5;have O5:=xh (oD.trans (o5.mono (S':=L.fp) (by simp[Loc.fp])));clear hD oD cp5 D5 o4 o5 DC DA;unfold dp at KC;go_wp2_with fail;rw[CP.o];go_wp2_with fail;refine KC.o.mono ?_
 rintro e w6 ⟨rfl,D6,o6⟩;go_wp2_with fail;go_ret;exact⟨rfl,D6,O5.o.trans (o6.mono (by simp[Loc.fp]))⟩
theorem MX{d:D}(h:aY w L n d)(k:Nat)(hk:k<n)(s:ByteArray)(ha:d.jm n k=0)(hc:d.calls<=4000000000000000000)(hr:d.bA<=9223372036854775807)(hl:d.loose.getD k false=true):
  Calls prog 103 #[dp L.b,.int .i64 k,.string s] w λe w'=>e=.returned (.int .i64 ((d.dv k s.data.toList).cy).2)/\aY w' L n ((d.dv k s.data.toList).cy).1/\ag L.fp w w':=by
 have K:=xh (pG h k);have hn:=h.ok.small;rw[ha]at K;have f0:=h.f0;have f1:=h.f1;have f2:=h.f2;have cl:w.cell? ⟨L.gL,k,none⟩=some (.bool true):=by
  rw[<-hl];refine h.hL.ab ?_;rw[cM,Bl _ _ (by rw[h.ok.loose];exact hk)]
 have ym:d.ia k=d:=by unfold D.ia;rw[hl];rfl
 have rX:d.dv k s.data.toList={d with now:=fX d.now k (j5 s.data.toList)}:=by unfold D.dv;rw[ym]
 rw[rX];have hD:=h;have oD:ag L.fp w w:=ag.refl _ _;have DC:d.calls=d.calls:=rfl;have DA:d.bA=d.bA:=rfl;have HDC:=xh DC;clear ym rX ha h DC DA;unfold dp at *;have f0':=hD.f0;obtain⟨w4,st4,o4,w5,cp5,D5,o5⟩:=Lr hD k hk s;have f04:=QL hD o4;have CP:=xh cp5;have KC:=xh (rW D5 hc hr);have HD:=xh D5;have O5:=xh (oD.trans (o5.mono (S':=L.fp) (by simp[Loc.fp])));clear hD oD cp5 D5 o4 o5;unfold dp at KC;go_enter func103,ntmps103
 go_wp2_with fail;refine K.o.mono ?_;rintro e w1 ⟨rfl,rfl⟩;go_wp2_with fail;rw[CP.o];go_wp2_with fail;refine KC.o.mono ?_;rintro e w6 ⟨rfl,D6,o6⟩;go_wp2_with fail;go_ret;exact⟨rfl,D6,O5.o.trans (o6.mono (by simp[Loc.fp]))⟩
end Dk
namespace Dk
open Go.RowKit
variable{w:World}{L:Loc}{n:Nat}{d:D}
theorem lK(h:aY w L n d)(i:Int)(s:ByteArray)(hc:d.calls<=4000000000000000000)(hr:d.bA<=9223372036854775807):
  Calls prog 103 #[dp L.b,.int .i64 i,.string s] w λe w'=>e=.returned (.int .i64 (d.aG n i s.data.toList).2)/\aY w' L n (d.aG n i s.data.toList).1/\ag L.fp w w':=by
 rcases Bn d n i with ha|ha
 .have hi:=QK ha;obtain⟨k,rfl⟩:=dL hi.1;have e1:d.aG n k s.data.toList=(d.dv k s.data.toList).cy:=by unfold D.aG;rw[if_pos ha];rfl
  rw[e1]
  cases hl:d.loose.getD k false
  .exact MW h k (by omega) s ha hc hr hl
  .exact MX h k (by omega) s ha hc hr hl
 .have e1:d.aG n i s.data.toList=(d,d.jm n i):=by unfold D.aG;rw[if_neg (by simpa using ha)]
  rw[e1];have K:=xh (pG h i);have H:=xh h;generalize d.jm n i=x at *;clear e1 h;unfold dp at *;go_enter func103,ntmps103;go_wp2_with fail;refine K.o.mono ?_;rintro e w1 ⟨rfl,rfl⟩;go_wp2_with fail;go_ret;exact⟨rfl,H.o,ag.refl _ _⟩
theorem AG(z:Value)(n:Nat):(Builtin.zeroCells #[z] n).toList=List.replicate n z:=by
 unfold Builtin.zeroCells;apply xZ
 .simp
 .intro i h1 h2;simp[Nat.mod_one]
theorem MY(l c:List Value)(h:l.length=c.length):putAt l 0 c=c:=by
 simp[putAt,h]
theorem MZ{P:Program}{g:Nat}{t T e:TypeId}{l:List Value}(B:aE w g t l.toArray)(ht:P.underlying T=some (.slice e)){z:Value}(hz:∀w,(zeroValue e).run P w=.ok z w)(h1:z.cells= #[z])(iX:z.oneCell'=true)(ty:TypeId)(n c:Nat)(hn:l.length=n):
  ∃w',(Builtin.clear_ #[T] ty #[.slice (some ⟨g,0,none⟩) n c]).run P w=.ok (.tuple #[]) w'/\aE w' g t (List.replicate n z).toArray/\ag [g] w w':=by
 rcases Dn n with h0|h0
 .subst h0;have:l=[]:=nW hn;subst this;exact⟨w,by simp[Builtin.clear_,run_underlying ht],B,ag.refl _ _⟩
 .have ui:=run_storeCells_cells (P:=P) g 0 (List.replicate n z) 0 w (λj hj=>by rw[B.cell];simp at hj ⊢;omega) (λj hj=>B.frozen _ (by simp at hj ⊢;omega)) (by intro v hv;rw[(List.mem_replicate.1 hv).2];exact iX);refine⟨w.setCells g 0 (List.replicate n z),?_,?_,(ag.refl _ _).setCells _ 0 (by simp)⟩
  .obtain⟨m,rfl⟩:∃m,n=m+1:=⟨n-1,by omega⟩;simp only[kE]at ui;simp[Builtin.clear_,run_underlying ht,hz,h1,AG,ui,Result.andThen]
  .have:=B.setCells (List.replicate n z) 0 (by simp;omega)
   rwa [MY _ _ (by simp;omega)]at this
theorem QM(h:aY w L n d)(hc:d.calls<=4000000000000000000)(hr:d.bA<=9223372036854775807):
  Calls prog 104 #[dp L.b] w λe w'=>e=.returned (.int .i64 d.gj.2)/\aY w' L n d.gj.1/\ag L.fp w w':=by
 have K:=xh (jt h);have KC:=xh (rW h hc hr);have Bo:=xh h.ok.sync;unfold D.fY at K
 cases hd:d.down
 .rw[hd]at K;simp only[lZ,if_false]at K
  by_cases h0:d.cy.2=0
  .have e1:d.gj=({d.cy.1 with loose:=List.replicate d.loose.length false},0):=by
    unfold D.gj;rw[hd,if_neg (by simp),if_pos h0]
   have oU:=h.ok.loose;rw[oU]at e1;rw[e1];rw[e1]at Bo;rw[h0]at KC;have Ie:d.cy.1.loose.length=n:=by
    have:=h.ok.count.loose;exact this
   clear e1 h0 hd h oU;generalize d.cy.1=d1 at *;unfold dp at *;go_enter func104,ntmps104;go_wp2_with fail;refine K.o.mono ?_;rintro e w1 ⟨rfl,rfl⟩;go_wp2_with fail;refine KC.o.mono ?_;rintro e w2 ⟨rfl,D2,o2⟩;have f2:=D2.f2;obtain⟨w3,ec,B3,o3⟩:=MZ (P:=prog) D2.hL underlying65 (z:= .bool false) (λ_=>by kernel_rfl) rfl rfl 0 n n (by simpa using Ie);have EC:=xh ec;clear ec Ie;go_wp2_with fail;rw[EC.o];go_wp2_with fail;go_ret
   refine⟨rfl,⟨D2.hb.only o3 (by simp;exact D2.bL),D2.hN.only o3 (by simp;exact λe=>D2.LN e.symm),D2.hO.only o3 (by simp;exact λe=>D2.LO e.symm),?_,D2.ne,Bo.o⟩,(o2.mono (by simp[Loc.fp])).trans (o3.mono (by simp[Loc.fp]))⟩;simpa [oV]using B3
  .have e1:d.gj=d.cy:=by
    unfold D.gj;rw[hd,if_neg (by simp),if_neg h0]
   rw[e1];have eV:(d.cy.2==0)=false:=by simpa using h0
   generalize d.cy=dd at *;clear e1 h0 hd h;obtain⟨d1,x⟩:=dd;simp only at eV KC;unfold dp at *;go_enter func104,ntmps104;go_wp2_with fail;refine K.o.mono ?_;rintro e w1 ⟨rfl,rfl⟩;go_wp2_with fail;refine KC.o.mono ?_;rintro e w2 ⟨rfl,D2,o2⟩;go_wp2_with fail;go_ret;exact⟨rfl,D2,o2.mono (by simp[Loc.fp])⟩
 .rw[hd]at K;simp only[if_true]at K;have e1:d.gj=(d,13):=by unfold D.gj;rw[hd,if_pos rfl]
  rw[e1];have H:=xh h;clear e1 hd h;unfold dp at *;go_enter func104,ntmps104;go_wp2_with fail;refine K.o.mono ?_;rintro e w1 ⟨rfl,rfl⟩;go_wp2_with fail;go_ret;exact⟨rfl,H.o,ag.refl _ _⟩
theorem Fw(h:aY w L n d):
  Calls prog 182 #[dp L.b] w λe w'=>e=.returned (.int .i64 n)/\w=w':=by
 have f0:=h.f0;unfold dp;go_enter func182,ntmps182
 go_wp2
 go_ret;exact⟨rfl,rfl⟩
attribute [local go_sem ↓] DB DE uB
def D.zero(n:Nat):D:={now:=List.replicate (64*n) 0,cG:=List.replicate (64*n) 0,loose:=List.replicate n false,bA:=0,calls:=0,down:=false}
theorem I0:(prog.info? 152).map (λi=>(i.zero,i.size,i.bytes))=some (some pF,64,64):=by kernel_rfl
theorem M5:(prog.info? 4).map (λi=>(i.zero,i.size,i.bytes))=some (some (.bool false),1,1):=by kernel_rfl
theorem wV(n:Nat):madeCells pF.cells (n*64)=(dh (List.replicate (64*n) 0)).toArray:=by
 have h0:pF.cells=(List.replicate 64 (Value.int .u8 0)).toArray:=by
  show(dh (List.replicate 64 0)).toArray=_;rw[dh,List.map_replicate];rfl
 have hz:∀k,k<64->pF.cells[k]! = .int .u8 0:=by
  intro k h;rw[h0,getElem!_pos _ k (by rw[jM,fi];exact h),List.getElem_toArray,List.getElem_replicate]
 have hs:pF.cells.size=64:=by rw[h0,jM,fi]
 apply Array.ext
 .simp[size_madeCells];omega
 .intro i h1 h2;simp only[madeCells,hs];rw[Array.getElem_map,Array.getElem_range,hz _ (qD _ (by decide))];simp[dh,bv]
def fm(n:Nat):Obj:= .cells (dh (List.replicate (64*n) 0)).toArray 152
def k7(n:Nat):Obj:= .cells (oV (List.replicate n false)).toArray 4
theorem M6(n:Nat)(hn:n<=4096)(w:World):
  (Instr.makeSlice 147 (.int .i64 n) (.int .i64 n)).run prog w=.ok (.slice (some ⟨w.heap.size,0,none⟩) n n) (w.alloc (fm n)):=by
 obtain⟨i0,hi,ke,iX,jF⟩:=info_parts I0;have h:=run_make (P:=prog) w 147 152 i0 pF underlying147 hi ke .i64 .i64 n n (by omega) (jK _) (by rw[jF];omega) (by omega);rw[h,iX];simp only[gv,wV];rfl
theorem I1(n:Nat)(hn:n<=4096)(w:World):
  (Instr.makeSlice 65 (.int .i64 n) (.int .i64 n)).run prog w=.ok (.slice (some ⟨w.heap.size,0,none⟩) n n) (w.alloc (k7 n)):=by
 obtain⟨i0,hi,ke,iX,jF⟩:=info_parts M5;have h:=run_make (P:=prog) w 65 4 i0 (.bool false) underlying65 hi ke .i64 .i64 n n (by omega) (jK _) (by rw[jF];omega) (by omega);rw[h,iX];have e:madeCells (Value.bool false).cells (((n:Int).toNat)*1)=(oV (List.replicate n false)).toArray:=by
  show madeCells #[Value.bool false] (n*1)=_;rw[Nat.mul_one,gM];simp[oV]
 rw[e];rfl
theorem four(w:World)(a b c d:Obj):((((w.alloc a).alloc b).alloc c).alloc d).heap[w.heap.size]?=some a/\((((w.alloc a).alloc b).alloc c).alloc d).heap[w.heap.size+1]?=some b/\((((w.alloc a).alloc b).alloc c).alloc d).heap[w.heap.size+1+1]?=some c/\((((w.alloc a).alloc b).alloc c).alloc d).heap[w.heap.size+1+1+1]?=some d:=by
 have s1:(w.alloc a).heap.size=w.heap.size+1:=by simp
 have s2:((w.alloc a).alloc b).heap.size=w.heap.size+1+1:=by simp
 have s3:(((w.alloc a).alloc b).alloc c).heap.size=w.heap.size+1+1+1:=by simp
 have e2:=heap_alloc_new (w.alloc a) b;have e3:=heap_alloc_new ((w.alloc a).alloc b) c;have e4:=heap_alloc_new (((w.alloc a).alloc b).alloc c) d;rw[s1]at e2;rw[s2]at e3;rw[s3]at e4;exact⟨(Below.heap_alloc _ d _ (by omega)).trans ((Below.heap_alloc _ c _ (by omega)).trans ((Below.heap_alloc _ b _ (by omega)).trans (heap_alloc_new w a))),(Below.heap_alloc _ d _ (by omega)).trans ((Below.heap_alloc _ c _ (by omega)).trans e2),(Below.heap_alloc _ d _ (by omega)).trans e3,e4⟩
theorem uC(w:World)(a b c d:Obj):Below w.heap.size w ((((w.alloc a).alloc b).alloc c).alloc d).drew:=
 (((((Below.refl _ _).alloc (aj _) _).alloc (by simp) _).alloc (by simp;omega) _).alloc (by simp;omega) _).drew
theorem ox(n:Nat)(hn:n<=4096):(D.zero n).Ok n:=⟨by simp[D.zero],by simp[D.zero],by simp[D.zero],hn,jK 0,jK 0⟩
theorem DF(n:Nat)(w:World)(h1:1<=n)(hn:n<=4096):
  Calls prog 52 #[.int .i64 n] w λe w'=> ∃L,e=.returned (.tuple #[dp L.b,.int .i64 0])/\aY w' L n (D.zero n)/\Below w.heap.size w w'/\(∀x∈L.fp,w.heap.size<=x):=by
 have m1:=M6 n hn;have m2:=I1 n hn;go_enter func52,ntmps52
 go_wp2
 go_region
 all_goals go_wp2
 all_goals go_ret2
 all_goals first|exact⟨⟨w.heap.size+1+1+1,w.heap.size,w.heap.size+1,w.heap.size+1+1⟩,rfl,⟨.of_eq (four w (fm n) (fm n) (k7 n) (.cells (fields ⟨w.heap.size+1+1+1,w.heap.size,w.heap.size+1,w.heap.size+1+1⟩ n (D.zero n)) 149)).2.2.2,.of_eq (four w (fm n) (fm n) (k7 n) (.cells (fields ⟨w.heap.size+1+1+1,w.heap.size,w.heap.size+1,w.heap.size+1+1⟩ n (D.zero n)) 149)).1,.of_eq (four w (fm n) (fm n) (k7 n) (.cells (fields ⟨w.heap.size+1+1+1,w.heap.size,w.heap.size+1,w.heap.size+1+1⟩ n (D.zero n)) 149)).2.1,.of_eq (four w (fm n) (fm n) (k7 n) (.cells (fields ⟨w.heap.size+1+1+1,w.heap.size,w.heap.size+1,w.heap.size+1+1⟩ n (D.zero n)) 149)).2.2.1,by dsimp only;omega,ox n hn⟩,uC w _ _ _ _,by simp[Loc.fp];omega⟩|exact⟨⟨w.heap.size+1+1+1,w.heap.size,w.heap.size+1+1,w.heap.size+1⟩,rfl,⟨.of_eq (four w (fm n) (k7 n) (fm n) (.cells (fields ⟨w.heap.size+1+1+1,w.heap.size,w.heap.size+1+1,w.heap.size+1⟩ n (D.zero n)) 149)).2.2.2,.of_eq (four w (fm n) (k7 n) (fm n) (.cells (fields ⟨w.heap.size+1+1+1,w.heap.size,w.heap.size+1+1,w.heap.size+1⟩ n (D.zero n)) 149)).1,.of_eq (four w (fm n) (k7 n) (fm n) (.cells (fields ⟨w.heap.size+1+1+1,w.heap.size,w.heap.size+1+1,w.heap.size+1⟩ n (D.zero n)) 149)).2.2.1,.of_eq (four w (fm n) (k7 n) (fm n) (.cells (fields ⟨w.heap.size+1+1+1,w.heap.size,w.heap.size+1+1,w.heap.size+1⟩ n (D.zero n)) 149)).2.1,by dsimp only;omega,ox n hn⟩,uC w _ _ _ _,by simp[Loc.fp];omega⟩|exact⟨⟨w.heap.size+1+1+1,w.heap.size+1,w.heap.size,w.heap.size+1+1⟩,rfl,⟨.of_eq (four w (fm n) (fm n) (k7 n) (.cells (fields ⟨w.heap.size+1+1+1,w.heap.size+1,w.heap.size,w.heap.size+1+1⟩ n (D.zero n)) 149)).2.2.2,.of_eq (four w (fm n) (fm n) (k7 n) (.cells (fields ⟨w.heap.size+1+1+1,w.heap.size+1,w.heap.size,w.heap.size+1+1⟩ n (D.zero n)) 149)).2.1,.of_eq (four w (fm n) (fm n) (k7 n) (.cells (fields ⟨w.heap.size+1+1+1,w.heap.size+1,w.heap.size,w.heap.size+1+1⟩ n (D.zero n)) 149)).1,.of_eq (four w (fm n) (fm n) (k7 n) (.cells (fields ⟨w.heap.size+1+1+1,w.heap.size+1,w.heap.size,w.heap.size+1+1⟩ n (D.zero n)) 149)).2.2.1,by dsimp only;omega,ox n hn⟩,uC w _ _ _ _,by simp[Loc.fp];omega⟩|exact⟨⟨w.heap.size+1+1+1,w.heap.size+1,w.heap.size+1+1,w.heap.size⟩,rfl,⟨.of_eq (four w (k7 n) (fm n) (fm n) (.cells (fields ⟨w.heap.size+1+1+1,w.heap.size+1,w.heap.size+1+1,w.heap.size⟩ n (D.zero n)) 149)).2.2.2,.of_eq (four w (k7 n) (fm n) (fm n) (.cells (fields ⟨w.heap.size+1+1+1,w.heap.size+1,w.heap.size+1+1,w.heap.size⟩ n (D.zero n)) 149)).2.1,.of_eq (four w (k7 n) (fm n) (fm n) (.cells (fields ⟨w.heap.size+1+1+1,w.heap.size+1,w.heap.size+1+1,w.heap.size⟩ n (D.zero n)) 149)).2.2.1,.of_eq (four w (k7 n) (fm n) (fm n) (.cells (fields ⟨w.heap.size+1+1+1,w.heap.size+1,w.heap.size+1+1,w.heap.size⟩ n (D.zero n)) 149)).1,by dsimp only;omega,ox n hn⟩,uC w _ _ _ _,by simp[Loc.fp];omega⟩|exact⟨⟨w.heap.size+1+1+1,w.heap.size+1+1,w.heap.size,w.heap.size+1⟩,rfl,⟨.of_eq (four w (fm n) (k7 n) (fm n) (.cells (fields ⟨w.heap.size+1+1+1,w.heap.size+1+1,w.heap.size,w.heap.size+1⟩ n (D.zero n)) 149)).2.2.2,.of_eq (four w (fm n) (k7 n) (fm n) (.cells (fields ⟨w.heap.size+1+1+1,w.heap.size+1+1,w.heap.size,w.heap.size+1⟩ n (D.zero n)) 149)).2.2.1,.of_eq (four w (fm n) (k7 n) (fm n) (.cells (fields ⟨w.heap.size+1+1+1,w.heap.size+1+1,w.heap.size,w.heap.size+1⟩ n (D.zero n)) 149)).1,.of_eq (four w (fm n) (k7 n) (fm n) (.cells (fields ⟨w.heap.size+1+1+1,w.heap.size+1+1,w.heap.size,w.heap.size+1⟩ n (D.zero n)) 149)).2.1,by dsimp only;omega,ox n hn⟩,uC w _ _ _ _,by simp[Loc.fp];omega⟩|exact⟨⟨w.heap.size+1+1+1,w.heap.size+1+1,w.heap.size+1,w.heap.size⟩,rfl,⟨.of_eq (four w (k7 n) (fm n) (fm n) (.cells (fields ⟨w.heap.size+1+1+1,w.heap.size+1+1,w.heap.size+1,w.heap.size⟩ n (D.zero n)) 149)).2.2.2,.of_eq (four w (k7 n) (fm n) (fm n) (.cells (fields ⟨w.heap.size+1+1+1,w.heap.size+1+1,w.heap.size+1,w.heap.size⟩ n (D.zero n)) 149)).2.2.1,.of_eq (four w (k7 n) (fm n) (fm n) (.cells (fields ⟨w.heap.size+1+1+1,w.heap.size+1+1,w.heap.size+1,w.heap.size⟩ n (D.zero n)) 149)).2.1,.of_eq (four w (k7 n) (fm n) (fm n) (.cells (fields ⟨w.heap.size+1+1+1,w.heap.size+1+1,w.heap.size+1,w.heap.size⟩ n (D.zero n)) 149)).1,by dsimp only;omega,ox n hn⟩,uC w _ _ _ _,by simp[Loc.fp];omega⟩
structure Cr where
 A:Option Addr
 m:Nat
 c:Nat
 kp:Nat->Bool
 torn:Int
 bytes:Int
def Cr.At(C:Cr)(w:World):Prop:= ∀i,i<C.m->∃ad,C.A=some ad/\w.cell? (ad.add i)=some (.bool (C.kp i))
theorem Cr.At.only{C:Cr}{S:List Nat}{w w':World}(h:C.At w)(ho:ag S w w')(hap:∀ad,C.A=some ad->0<C.m->ad.block∉S):C.At w':=by
 intro i hi;obtain⟨ad,e,hc⟩:=h i hi;exact⟨ad,e,(ho.cell (by rw[lz];exact Lj hc) (by rw[lz];exact hap ad e (by omega))).trans hc⟩
end Dk
end Go.Proofs.YtmonobkginiajaaGreat
