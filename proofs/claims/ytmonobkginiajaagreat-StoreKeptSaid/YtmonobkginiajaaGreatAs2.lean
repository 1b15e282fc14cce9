/- packed. -/
import Derived.Lib.AppendStr
import Derived.Deep.LoopGhost
import Derived.Deep.DrawnRows
import Derived.Laws.ResultCell
import Derived.Deep.RegionHeld3
import Derived.Test.YtmonobkginiajaaGreatAs1
set_option linter.all false
set_option maxRecDepth 100000
set_option maxHeartbeats 8000000
namespace Go.Proofs.YtmonobkginiajaaGreat
open Go.Proofs.Tryz
open Value renaming string→U2,slice→U3,int→U5,bool→U6,pointer→U7,tuple→U8
open Ending renaming returned→BY
open IntKind renaming i64→By,u8→Nm
open Obj renaming cells→WF
open Go renaming World→YB,Value→YO,Calls→eq,maxLen→it,TypeId→pm
open List renaming replicate→fd
open UInt8 renaming ofNat→gn
namespace Pg
open Go.RowKit Pk
variable{w:YB}
noncomputable def rq(P:Program)(T U ty:pm)(w:YB)(s x:YO):Result YO:=(Builtin.append_ #[T,U] ty #[s,x]).run P w
theorem xA(P:Program)(ρ:Operand->YO)(dst:Option Tmp)(s x:Operand)(T U t:pm)(p:String)(af:Array Edge)(g:Option (Nat×Bool))(w:YB):
  (execOp ρ {dst:=dst,op:= .call {callee:= .builtin .append,args:= #[s,x],argTypes:= #[T,U]},type:=t,pos:=p,after:=af,guard:=g}).run P w=(rq P T U t w (ρ s) (ρ x)).andThen λv w'=> .ok (.value v) w':=by
 simp[execOp,resolve,invoke,builtin,rq]
theorem Hg(n:Nat):(Builtin.zeroCells (Value.int Nm 0).cells n).toList=fd n (Value.int Nm 0):=by
 apply xq
 .simp[Builtin.zeroCells,Value.cells]
 .intro i h1 h2;simp[Builtin.zeroCells,Value.cells,Nat.mod_one]
theorem lL{P:Program}{e:pm}{v:YO}{n:Nat}{l:List YO}(h:aM w e 1 v n l)
 (T U ty:pm)(ht:P.underlying T=some (.slice e))(hu:P.underlying U=some .string)(nN:(P.info? e).map (λi=>(i.zero,i.size,i.bytes))=some (some (U5 Nm 0),1,1))
 (s:rd)(Hc:n+s.size<=140737488355328):
  ∃v' w',rq P T U ty w v (U2 s)= .ok v' w'/\aM w' e 1 v' (n+s.size) (l++dR s.data.toList)/\ag (ah v) w w'/\(∀g∈ah v',g∈ah v\/w.heap.size<=g):=by
 obtain⟨i,hi,hz,AS,hby⟩:=info_parts nN;have Wl:Lib.strCells s=dR s.data.toList:=rfl;have hlen:(dR s.data.toList).length=s.size:=by simp
 have qQ:=h.1
 rcases h.2 with⟨rfl,rfl⟩|⟨g,cap,rest,rfl,B,hc,hm⟩
 .have zG:l=[]:=oO (by simpa using h.1);subst zG;obtain⟨v',w',hr,h2,h3,_⟩:=Lib.run_append_own_string (P:=P) w w.heap.size T U ty e i ht hu hi hz AS hby (U3 none 0 0) 0 [] (World.ownsRow_nil _ _ _ _) s (by unfold it;omega) (by omega) (ai _);refine⟨v',w',hr,.AR h2,(ag.refl _ _).grown h3 (by simp[Value.ownBlock]),?_⟩;intro g hg
  rcases h2.2 with⟨rfl,_⟩|⟨g',cap,cur,rfl,hb,_⟩
  .simp[ah]at hg
  .simp[ah]at hg;subst hg;exact .inr hb
 .by_cases hr:n+s.size<=cap
  .have hf:=Lib.run_firstCells_string (P:=P) w 1 s;have tV:=run_storeCells_cells (P:=P) g n (dR s.data.toList) 0 w (λj hj=>by rw[B.cell];simp at hj ⊢;omega) (λj hj=>B.frozen _ (by simp at hj ⊢;omega)) (sQ _);refine⟨U3 (lc g) (n+s.size) cap,w.setCells g n (dR s.data.toList),?_,⟨by simp;omega,.inr ⟨g,cap,rest.drop s.size,rfl,?_,by simp;omega,hm⟩⟩,(ag.refl _ _).setCells _ _ (by simp[ah]),by simp[ah]⟩
   .simp only[ma]at tV;rw[Wl]at hf;simp[rq,Builtin.append_,run_underlying ht,run_underlying hu,sizeOf,typeInfo,hi,AS,Builtin.lenOf,hr,hf,Addr.add_lit,tV]
   .have B2:=B.setCells (dR s.data.toList) n (by simp;omega);have e2:putAt (l++rest) n (dR s.data.toList)=l++dR s.data.toList++rest.drop s.size:=by
     unfold putAt;have:l.length=n:=by omega
     rw[hlen,<-this,sK,<-ji,uw]
    rwa [e2]at B2
  .have MN:=grownCap_ge w (n+s.size) cap e;have vr:=grownCap_le_maxLen w (n+s.size) cap e (by unfold it;omega)
   refine⟨_,_,(Lib.run_append_grow_string (P:=P) w T U ty e i (U5 Nm 0) ht hu hi hz ⟨g,0,none⟩ n cap l (by rw[AS];exact h.1) (bm B 0 l (by intro j u hu;rw[bq];exact bE (aR.1 hu).1▸hu)) s (by omega) (by omega) (by rw[hby];exact growslice_fits (by omega) (by omega))),⟨by simp;omega,.inr ⟨w.heap.size,_,fd (grownCap w (n+s.size) cap e-(n+s.size)) (Value.int Nm 0),rfl,?_,by simp;omega,vr⟩⟩,(ag.refl _ _).drew.alloc _,by simp[ah]⟩
   have e3:l.toArray++(Lib.strCells s).toArray++Builtin.zeroCells (Value.int Nm 0).cells (grownCap w (n+s.size) cap e-(n+s.size))=(l++dR s.data.toList++fd (grownCap w (n+s.size) cap e-(n+s.size)) (Value.int Nm 0)).toArray:=by
    apply qP.1;simp only[VW,Wl]
    congr 1
    exact Hg _
   rw[<-e3];exact (aF.new w.drew e (l.toArray++(Lib.strCells s).toArray++Builtin.zeroCells (Value.int Nm 0).cells (grownCap w (n+s.size) cap e-(n+s.size))))
theorem I_all(m:Nat)(h1:m<9223372036854775808)(w:YB):
  eq prog 88 #[(m:Nat)] w λe w'=>e=BY (U2 ⟨(df m).toArray⟩)/\i7 w w':=by
 have hN:(((m:Int)+9223372036854775808) % 18446744073709551616).toNat=m+9223372036854775808:=by omega
 have hNI:((m+9223372036854775808:Nat):Int)=(m:Int)+9223372036854775808:=by omega
 have K:=xh<|jD (m+9223372036854775808) (by omega) w;rw[hNI]at K;unfold df;rw[hN];go_in;go_wp;go_call K.o as e w1 ⟨⟨v,rfl,S⟩,hb⟩;obtain⟨g,cap,rest,rfl,B,hc,_⟩:=S.form (by omega) (by omega)
 have ST:=xh<|cu (P:=prog) w1 150 9 5 underlying150 underlying5 underlying9 ⟨g,0,none⟩ 8 cap (wY (m+9223372036854775808)) rfl (bm B 0 _ (by intro j u hu;rw[bq];exact bE (aR.1 hu).1▸hu));have HB:=xh hb;go_wp2_with fail;rw[ST.o];go_wp2;go_ret;exact⟨rfl,HB.o⟩
theorem U_any(m:Nat)(h1:m<18446744073709551616)(w:YB):
  eq prog 253 #[U5 .u64 (m:Nat)] w λe w'=>e=BY (U2 ⟨(wY m).toArray⟩)/\i7 w w':=by
 go_in;go_wp;go_call (xh<|jD m h1 w).o as e w1 ⟨⟨v,rfl,S⟩,hb⟩;obtain⟨g,cap,rest,rfl,B,hc,_⟩:=S.form (by omega) (by omega);have ST:=xh<|cu (P:=prog) w1 150 9 5 underlying150 underlying5 underlying9 ⟨g,0,none⟩ 8 cap (wY m) rfl (bm B 0 _ (by intro j u hu;rw[bq];exact bE (aR.1 hu).1▸hu));have HB:=xh hb
 go_wp2_with fail;rw[ST.o];go_wp2;go_ret;exact⟨rfl,HB.o⟩
def jN(id ep kd:Int)(s:rd):YO:= .agg #[U5 By id,U5 By ep,U5 By kd,U2 s]
def Wm(id ep kd:Int)(s:rd):Array YO:= #[U5 By id,U5 By ep,U5 By kd,U2 s]
def NA(id ep kd:Int):Bool:=decide (0<=id) && decide (0<=ep) && decide (ep<=1099511627776) && decide (0<=kd) && decide (kd<=2147483647)
theorem qs(id ep kd:Int):NA id ep kd=true↔0<=id/\0<=ep/\ep<=1099511627776/\0<=kd/\kd<=2147483647:=by
 unfold NA;simp only[iG,decide_eq_true_eq];omega
theorem ae{W w1:YB}(h:i7 W w1)(o:Obj):i7 W (w1.alloc o):=h.alloc h.size o
theorem qt(id ep kd:Int)(s:rd)(b:Bool)(hb:NA id ep kd=b):
  eq prog 222 #[jN id ep kd s] w λe w'=>e=BY (U6 b)/\i7 w w':=by
 have B0:=aF.new w 162 (Wm id ep kd s);have O0:=xh<|i6 w (WF (Wm id ep kd s) 162);unfold Wm at B0 O0
 unfold NA at hb;have HB:=xh hb;unfold jN
 by_cases h1:0<=id
 .by_cases h2:0<=ep
  .by_cases h3:ep<=1099511627776
   .by_cases h4:0<=kd
    .by_cases h5:kd<=2147483647
     all_goals
      go_in;go_wp2;go_ret;exact⟨by rw[<-HB.o];first|(simp[h1,h2,h3,h4,h5];done)|(simp[h1,h2,h3,h4,h5];omega),O0.o⟩
    .go_in;go_wp2;go_ret;exact⟨by rw[<-HB.o];first|(simp[h1,h2,h3,h4];done)|(simp[h1,h2,h3,h4];omega),O0.o⟩
   .go_in;go_wp2;go_ret;exact⟨by rw[<-HB.o];first|(simp[h1,h2,h3];done)|(simp[h1,h2,h3];omega),O0.o⟩
  .go_in;go_wp2;go_ret;exact⟨by rw[<-HB.o];first|(simp[h1,h2];done)|(simp[h1,h2];omega),O0.o⟩
 .go_in;go_wp2;go_ret;exact⟨by rw[<-HB.o];first|(simp[h1];done)|(simp[h1];omega),O0.o⟩
variable{w:YB}{v:YO}{l:pu}{w0 gb:Nat}
structure oH(w0:Nat)(w:YB)(gb:Nat)(v:YO)(l:pu):Prop where
 uD:aF w gb 150 #[v]
 Sz:aM w 5 1 v l.length (dR l)
 own:∀g∈ah v,w0<=g
 low:w0<=gb
theorem dL{e t:pm}{size n b:Nat}{l:List YO}{cs:Array YO}(h:aM w e size v n l)(B:aF w b t cs)(fF:t≠e):b∉ah v:=by
 rcases h.2 with⟨rfl,_⟩|⟨g,cap,rest,rfl,B2,_⟩
 .simp[ah]
 .intro hb;simp[ah]at hb;subst hb;exact B.jJ B2 fF rfl
theorem oH.below{w':YB}(h:oH w0 w gb v l)(hb:i7 w w'):oH w0 w' gb v l:=⟨h.uD.below hb h.uD.lt,h.Sz.below hb,h.own,h.low⟩
theorem oH.grow{w1:YB}{v':YO}{m:pu}(h:oH w0 w gb v l)(hw:w0<=w.heap.size)(S:aM w1 5 1 v' (l.length+m.length) (dR (l++m)))(o:ag (ah v) w w1)(fr:∀g∈ah v',g∈ah v\/w.heap.size<=g):
  w1.cell? (lc gb)=some v/\w1.frozen? ⟨gb,0,none⟩=false/\oH w0 (w1.setCell ⟨gb,0,none⟩ v') gb v' (l++m)/\Below w0 w (w1.setCell ⟨gb,0,none⟩ v'):=by
 have B1:=h.uD.only o (dL h.Sz h.uD (by decide));have o2:=(ag.refl [gb] w1).setCell (p:=⟨gb,0,none⟩) (by simp) v';refine⟨B1.ab rfl,B1.frozen 0 (by simp),⟨(B1.cw 0 v'),?_,λg hg=>(fr g hg).elim (h.own g) (λh=>aq hw h),h.low⟩,?_⟩
 .rw[aT];exact S.only o2 (λg hg=>by
   intro h1
   rcases az.1 h1 with rfl
   exact (dL S B1 (by decide)) hg)
 .exact ((o.mono (λx hx _=>cg _ hx)).trans (o2.mono (λx hx _=>bP _ hx))).aK hw (λx hx=>(ay.1 hx).elim (h.own x) (λh1=>by rcases az.1 h1 with rfl;exact h.low))
section
attribute [local go_sem ↓] xA
theorem oI(h:oH w0 w gb v l)(hw:w0<=w.heap.size)(s:rd)(hs:l.length+s.size<=1000000):
  eq prog 252 #[U2 s,lc gb] w λe w'=>e=BY (U8 #[])/\(∃v',oH w0 w' gb v' (l++s.data.toList))/\Below w0 w w':=by
 have c0:w.cell? (lc gb)=some v:=h.uD.ab rfl;obtain⟨v',w1,ea,S1,ow,fr⟩:=lL (P:=prog) h.Sz 150 9 150 underlying150 underlying9 ke.eV s (by omega);have oq:s.data.toList.length=s.size:=by simp
 rw[<-dD,<-oq]at S1;obtain⟨V2,jh,rfl⟩:=ax S1;obtain⟨c1,z1,B2,O2⟩:=h.grow hw S1 ow fr;obtain⟨V1,Ek,rfl⟩:=ax h.Sz;have EA:=xh ea;have BX:=xh B2;have OX:=xh O2;clear ea S1 ow fr B2 O2 h oq;go_in;go_wp;rw[EA.o];go_wp2_with fail
 go_end0
 exact⟨rfl,⟨_,BX.o⟩,OX.o⟩
end
def mx(id ep kd:Int)(s:pu):pu:=df id++df ep++(wY kd.toNat).drop 4++s
def ft(l:pu)(n:Nat):pu:=l++fd (n-l.length) 0
def lF(id ep kd:Int)(s:pu):pu:=ke.bT (ft (mx id ep kd s) 252)
def eg(id ep kd:Int)(s:pu):pu×Int:=if NA id ep kd=true then(if 232<s.length then([],4)else(lF id ep kd s,0))else([],2)
theorem pput_no(id ep kd:Int)(s:rd)(h:NA id ep kd=false):
  eq prog 242 #[jN id ep kd s] w λe w'=>e=BY (U8 #[U2 ⟨#[]⟩,U5 By 2])/\i7 w w':=by
 have B0:=aF.new w 162 #[id,ep,kd,U2 s];have K:=xh (λw=>qt (w:=w) id ep kd s false h);unfold jN at *;go_in;go_wp;refine(K.o _).mono ?_
 rintro e w1 ⟨rfl,aO⟩;have O1:=xh<|aC (xh<|i6 w (WF #[id,ep,kd,U2 s] 162)).o aO;go_wp2;go_ret2;exact⟨rfl,O1.o⟩
attribute [local go_sem ↓] bA
theorem fN(n:Int):(df n).length=8:=by unfold df wY;rw[qo]
theorem exl(u:rd)(a b:Nat):(u.extract a b).data.toList=(u.data.toList.drop a).take (b-a):=by
 rw[MY,VX,Nf]
theorem qu(n:Nat):(wY n).length=8:=by unfold wY;rw[qo]
theorem jk(l:pu):(⟨l.toArray⟩:rd).size=l.length:=by show l.toArray.size=_;simp
theorem Wn{w:YB}(id ep kd:Nat)(s:rd)(hid:id<9223372036854775808)(Jk:ep<=1099511627776)(lA:kd<=2147483647)(hs:s.size<=232):
  eq prog 242 #[jN id ep kd s] w λe w'=>e=BY (U8 #[U2 ⟨(lF id ep kd s.data.toList).toArray⟩,U5 By 0])/\i7 w w':=by
 have B0:=aF.new w 162 #[(id:Nat),(ep:Nat),(kd:Nat),U2 s];have c1:=B0.bi 1;have c3:=B0.bi 3;have B0:=xh B0
 unfold jN at *;go_in;go_wp;go_call ((xh (λw=>qt (w:=w) id ep kd s true (by rw[qs];omega))).o _) as e w1 ⟨rfl,aO⟩;have O1:=xh<|aC (xh<|i6 w (WF #[(id:Nat),(ep:Nat),(kd:Nat),U2 s] 162)).o aO;have B1:=xh<|B0.o.below aO B0.o.lt;have a1:=O1.o.size;have a2:w.heap.size<w1.heap.size:=B1.o.lt;clear c1 c3 aO B0;have c3:=B1.ap 3;have B2:=xh<|B1.o.alloc (WF #[U3 none 0 0] 150);have O2:=xh<|ae O1.o (WF #[U3 none 0 0] 150)
 have F2:Hid (oH w1.heap.size (w1.alloc (WF #[U3 none 0 0] 150)) w1.heap.size (U3 none 0 0) []):=xh ⟨aF.new _ _ _,aM.nil _ _ _,by simp[ah],ai _⟩;have z2:w1.heap.size<=(w1.alloc (WF #[U3 none 0 0] 150)).heap.size:=by simp
 have d0:=B2.ap 0;have KU:=xh<|U_any kd (by omega);go_wp2_with fail;go_call ((xh<|I_all id hid).o _) as e w3 ⟨rfl,dk⟩;have O3:=xh<|aC O2.o dk;have B3:=xh<|B2.o.below dk B2.o.lt;have F3:=xh<|F2.o.below dk;have z3:=aq z2 dk.size;go_wp2_with fail
 go_call (oI F3.o z3 _ (by rw[jk,fN];simp)) as e w4 ⟨rfl,⟨v4,f4⟩,fo⟩;have O4:=xh<|O3.o.trans (fo.mono a1);have B4:=xh<|B3.o.below fo a2;have F4:=xh f4;have z4:=aq z3 fo.size;have d1:=B4.ap 1;go_wp2_with fail;go_call ((xh<|I_all ep (by omega)).o _) as e w5 ⟨rfl,mK⟩;have O5:=xh<|aC O4.o mK;have B5:=xh<|B4.o.below mK B4.o.lt;have F5:=xh<|F4.o.below mK
 have z5:=aq z4 mK.size;go_wp2_with fail;go_call (oI F5.o z5 _ (by simp[fN,jk])) as e w6 ⟨rfl,⟨v6,f6⟩,zI⟩;have O6:=xh<|O5.o.trans (zI.mono a1);have B6:=xh<|B5.o.below zI a2;have F6:=xh f6;have z6:=aq z5 zI.size;have d2:=B6.ap 2
 obtain⟨U,hU⟩:∃U:rd,(⟨(wY kd).toArray⟩:rd)=U:=⟨_,rfl⟩;have hU8:U.size=8:=by rw[<-hU,jk,qu]
 have Jt:(U.extract 4 8).data.toList=(wY kd).drop 4:=by
  rw[<-hU,exl];exact cm (by rw[ev];have:=qu kd;simp[this])
 rw[hU]at KU;have HUL:=xh Jt;go_wp2_with fail;go_call (KU.o _) as e w7 ⟨rfl,tW⟩;have O7:=xh<|aC O6.o tW;have B7:=xh<|B6.o.below tW B6.o.lt;have F7:=xh<|F6.o.below tW;have z7:=aq z6 tW.size;go_wp2_with fail;go_call (oI F7.o z7 _ (by simp[fN,jk,xi];omega)) as e w8 ⟨rfl,⟨v8,f8⟩,Ai⟩
 have O8:=xh<|O7.o.trans (Ai.mono a1);have B8:=xh<|B7.o.below Ai a2;have F8:=xh f8;have z8:=aq z7 Ai.size;have d3:=B8.ap 3;go_wp2_with fail;go_call (oI F8.o z8 _ (by simp[fN,jk,xi];omega)) as e w9 ⟨rfl,⟨v9,f9⟩,Vv⟩;have O9:=xh<|O8.o.trans (Vv.mono a1);have F9:=xh f9;have z9:=aq z8 Vv.size
 have F9:=g9 (oH w1.heap.size w9 w1.heap.size v9 (mx id ep kd s.data.toList)) (by have h:=F9.o;rw[<-(xh (show([]++df (id:Int)++df (ep:Int)++(U.extract 4 8).data.toList++s.data.toList)=mx id ep kd s.data.toList from by rw[HUL.o,cQ];rfl)).o];exact h);have HB:=xh (show(mx id ep kd s.data.toList).length=20+s.size from by unfold mx;simp[fN,qu];omega)
 obtain⟨L,hL⟩:∃L,mx (id:Int) ep kd s.data.toList=L:=⟨_,rfl⟩;rw[hL]at F9 HB;have HL:=xh hL;clear HUL hU8 KU;go_wp2_with fail
 go_loopg [37] 253 (λk lv wr=> ∃v j,20+s.size+j<=252/\253-(20+s.size+j)<=k/\Hid (oH w1.heap.size wr w1.heap.size v (L++fd j 0))/\Hid (i7 w wr)/\w1.heap.size<=wr.heap.size)
 case atStart=>exact⟨v9,0,by omega,by omega,xh (by rw[G4,jR];exact F9.o),xh O9.o,z9⟩
 case round=>
  obtain⟨v,j,hj,hk,F,O,z⟩:=hrel;have hlen:(L++fd j 0).length=20+s.size+j:=by rw[aT,HB.o,eR]
  have e0:=F.o.uD.bi 0;have hsv:=F.o.Sz;rw[hlen]at hsv;obtain⟨VA,vc,rfl⟩:=ax hsv
  by_cases h':20+s.size+j<252
  .have hI:((20+s.size+j:Nat):Int)<252:=by omega
   obtain⟨v',w2,ea,S2,ow,fr⟩:=dG (P:=prog) hsv 150 150 (U5 Nm 0) 1 underlying150 ke.eV rfl (U5 Nm 0) rfl (by unfold it;omega) (by omega);obtain⟨V2,jh,rfl⟩:=ax S2;have S3:aM w2 5 1 (U3 V2 (20+s.size+j+1) jh) ((L++fd j 0).length+[(0:UInt8)].length) (dR (L++fd j 0++[0])):=by
    rw[hlen,dD];exact S2
   obtain⟨c1,z1,B2,O2⟩:=F.o.grow z S3 ow fr;have z2:w1.heap.size<=(w2.setCell ⟨w1.heap.size,0,none⟩ (U3 V2 (20+s.size+j+1) jh)).heap.size:=by
    have:=ow.size;simp[World.setCell];omega
   have EA:=xh ea;have BX:=xh (show oH w1.heap.size (w2.setCell ⟨w1.heap.size,0,none⟩ (U3 V2 (20+s.size+j+1) jh)) w1.heap.size (U3 V2 (20+s.size+j+1) jh) (L++fd (j+1) 0)from by
    rw[zV,<-cK];exact B2)
   have OX:=xh<|O.o.trans (O2.mono a1);clear ea S2 S3 ow fr B2 O2 hsv hlen;go_wp;rw[EA.o];go_wp2_with fail
   go_roundg (253-(20+s.size+(j+1)))
   case measure=>omega
   case rel=>exact⟨_,j+1,by omega,ai _,BX,OX,z2⟩
  .have hje:20+s.size+j=252:=by omega
   have hpad:L++fd j 0=ft L 252:=by unfold ft;rw[HB.o];congr 2;omega
   rw[hpad]at F;have vL:(ft L 252).length=252:=by rw[<-hpad,hlen,hje]
   rw[hje]at e0 hsv;rw[hpad]at hsv;obtain⟨g,cap,rest,hv,B,_⟩:=hsv.form (by omega) (by omega);injection hv with qV re Jl
   subst qV Jl;have ST:=xh<|cu (P:=prog) wr 150 9 5 underlying150 underlying5 underlying9 ⟨g,0,none⟩ 252 vc (ft L 252) vL (bm B 0 _ (by intro j u hu;rw[bq];exact bE (aR.1 hu).1▸hu));have KL:=xh<|ke.Ah ⟨(ft L 252).toArray⟩ wr (by rw[jk,vL];omega)
   go_wp;rw[ST.o];go_wp2_with fail;go_call KL.o as e wz ⟨rfl,hbz⟩;have OZ:=xh<|aC O.o hbz;go_wp2;go_ret2;exact⟨by rw[<-(g9 (ke.bT (ft L 252)=lF id ep kd s.data.toList) (by unfold lF;rw[HL.o])).o];rfl,OZ.o⟩
end Pg
namespace Pg
open Go.RowKit Pk
variable{w:YB}{g:Nat}
structure PG where
 id:Int
 ep:Int
 kd:Int
 s:pu
def PG.zero:PG:=⟨0,0,0,[]⟩
def PG.val(p:PG):YO:=jN p.id p.ep p.kd ⟨p.s.toArray⟩
def mL(l:pu):PG:=⟨(mI ((l.drop 4).take 8):Int)-9223372036854775808,(mI ((l.drop 12).take 8):Int)-9223372036854775808,(mI ((l.drop 20).take 4):Nat),l.drop 24⟩
def kn(l:pu):PG×Int:=
 if l.length≠256 then(.zero,6)
 else if ke.jL (ke.mr (l.drop 4))≠l.take 4 then(.zero,14)
 else if NA (mL l).id (mL l).ep (mL l).kd=true then(mL l,0)else(.zero,14)
theorem SC(l:pu):mI ([0,0,0,0]++l)=mI l:=by simp[mI]
theorem eF{fn:Func}{p u:Tmp}{id ep kd:Int}{s:rd}{tmps:Array YO}(h:fn.results= #[.cell p 162,.tmp u])(hp:tmps.getD p undef=U7 (some ⟨g,0,none⟩))(B:aF w g 162 #[id,ep,kd,U2 s]):
  (results fn tmps).run prog w=.ok (U8 #[jN id ep kd s,tmps.getD u undef]) w:=by
 have c0:=B.bi 0;have c1:=B.bi 1;have c2:=B.bi 2;have c3:=B.bi 3;rw[results_cell_tmp h,hp];unfold jN;go_simp
abbrev kT:Array YO:= #[U5 By 0,U5 By 0,U5 By 0,U2 ⟨#[]⟩]
theorem ko{cs:Array YO}(B:aF w g 162 cs)(hc:cs.size=4)(id ep kd:Int)(s:rd):
  aF ((((w.setCell ⟨g,0,none⟩ id).setCell ⟨g,1,none⟩ ep).setCell ⟨g,2,none⟩ kd).setCell ⟨g,3,none⟩ (U2 s)) g 162 #[id,ep,kd,U2 s]:=by
 obtain⟨a,b,c,d,rfl⟩:∃a b c d,cs= #[a,b,c,d]:=by
  obtain⟨l⟩:=cs
  match l,hc with
  |[a,b,c,d],_=>exact⟨a,b,c,d,rfl⟩
 exact(((B.cw 0 id).cw 1 ep).cw 2 kd).cw 3 (U2 s)
theorem gW{W:YB}(h:i7 W w)(hg:W.heap.size<=g)(id ep kd:Int)(s:rd):
  i7 W ((((w.setCell ⟨g,0,none⟩ id).setCell ⟨g,1,none⟩ ep).setCell ⟨g,2,none⟩ kd).setCell ⟨g,3,none⟩ (U2 s)):=
 (((h.setCell (p:=⟨g,0,none⟩) hg _).setCell (p:=⟨g,1,none⟩) hg _).setCell (p:=⟨g,2,none⟩) hg _).setCell (p:=⟨g,3,none⟩) hg _
theorem Wq(s:rd)(h:s.size≠256):
  eq prog 185 #[U2 s] w λe w'=>e=BY (U8 #[PG.zero.val,U5 By 6])/\i7 w w':=by
 go_in;go_wp;exact bodyPost_ret (eF rfl rfl (xh<|aF.new w 162 kT).o) rfl ⟨rfl,(xh<|i6 w (WF kT 162)).o⟩
theorem Hh(s:rd)(h:s.size=256)(hc:ke.jL (ke.mr (s.data.toList.drop 4))≠s.data.toList.take 4):
  eq prog 185 #[U2 s] w λe w'=>e=BY (U8 #[PG.zero.val,U5 By 14])/\i7 w w':=by
 have B0:=xh<|aF.new w 162 kT
 have K:=xh (λw=>ke.Jr s w (by omega) (by unfold it;omega) hc);go_in;go_wp;go_call (K.o _) as e w1 ⟨rfl,aO⟩;have O1:=xh<|aC (xh<|i6 w (WF kT 162)).o aO;have B1:=xh<|B0.o.below aO B0.o.lt;have z0:=B1.o.frozen 0 (by simp);have z1:=B1.o.frozen 1 (by simp);have z2:=B1.o.frozen 2 (by simp);have z3:=B1.o.frozen 3 (by simp);have c0:=B1.ap 0;have c1:=B1.ap 1
 have c2:=B1.ap 2;have c3:=B1.ap 3;go_wp2_with fail;exact bodyPost_ret (eF rfl rfl (xh<|ko B1.o rfl 0 0 0 ⟨#[]⟩).o) rfl ⟨rfl,(xh<|gW O1.o (ai _) 0 0 0 ⟨#[]⟩).o⟩
theorem Bb(s:rd)(h:s.size=256)(hc:ke.jL (ke.mr (s.data.toList.drop 4))=s.data.toList.take 4)(b:Bool)(hb:NA (mL s.data.toList).id (mL s.data.toList).ep (mL s.data.toList).kd=b):
  eq prog 185 #[U2 s] w λe w'=>e=BY (U8 #[if b then(mL s.data.toList).val else PG.zero.val,U5 By (if b then 0 else 14)])/\i7 w w':=by
 have B0:=xh<|aF.new w 162 kT
 have K:=λw=>ke.cut_ok s w (by omega) (by unfold it;omega) hc;obtain⟨T,hT⟩:∃T,s.extract 4 s.size=T:=⟨_,rfl⟩;rw[hT]at K;have hTs:T.size=252:=by rw[<-hT,xi];omega
 have MP:T.data.toList=s.data.toList.drop 4:=by rw[<-hT,exl];exact cm (by simp)
 have K:=xh K;have KI:=xh<|sR T 0 (h1:=by omega) (hs:=by omega);have KJ:=xh<|sR T 8 (h1:=by omega) (hs:=by omega);obtain⟨U,hU⟩:∃U,(⟨#[0,0,0,0]⟩:rd)++T.extract 16 20=U:=⟨_,rfl⟩;have Vx:U.size=8:=by rw[<-hU,AJ,xi];show 4+_=8;omega
 have KU:=xh<|ES U 0 (h1:=by omega) (hs:=by omega);have Jt:U.data.toList=[0,0,0,0]++(s.data.toList.drop 20).take 4:=by
  rw[<-hU,GH,VW,exl,MP,ji]
 obtain⟨P,hP⟩:∃P,T.extract 20 252=P:=⟨_,rfl⟩;have hPl:P.data.toList=s.data.toList.drop 24:=by
  rw[<-hP,exl,MP,ji];exact cm (by simp;omega)
 obtain⟨N,hN⟩:∃N,mI ((s.data.toList.drop 20).take 4)=N:=⟨_,rfl⟩;have hNlt:N<4294967296:=by
  have h1:=xy ((s.data.toList.drop 20).take 4);have h2:((s.data.toList.drop 20).take 4).length=4:=by simp;omega
  rw[h2,hN]at h1;omega
 have e1:((mI (T.extract 0 (0+8)).data.toList:Nat):Int)-9223372036854775808=(mL s.data.toList).id:=by rw[exl,MP];rfl
 have e2:((mI (T.extract 8 (8+8)).data.toList:Nat):Int)-9223372036854775808=(mL s.data.toList).ep:=by rw[exl,MP,ji];rfl
 have e3:mI (U.extract 0 (0+8)).data.toList=N:=by
  rw[exl,GM,cm (by simp;omega),Jt,SC,hN]
 rw[e1]at KI;rw[e2]at KJ;rw[e3]at KU;have lA:(mL s.data.toList).kd=(N:Int):=by rw[<-hN];rfl
 have HV:=xh (show(mL s.data.toList).val=jN (mL s.data.toList).id (mL s.data.toList).ep N P from by
  have:P=⟨(mL s.data.toList).s.toArray⟩:=by
   have:P.data=(s.data.toList.drop 24).toArray:=by rw[<-hPl]
   cases P;simp only at this;subst this;rfl
  rw[this,<-lA];rfl)
 have i1: -9223372036854775808<=(mL s.data.toList).id/\(mL s.data.toList).id<=9223372036854775807:=by
  have h1:=xy ((s.data.toList.drop 4).take 8);have h2:((s.data.toList.drop 4).take 8).length=8:=by simp;omega
  rw[h2]at h1;show -9223372036854775808<=((mI _:Nat):Int)-9223372036854775808/\((mI _:Nat):Int)-9223372036854775808<=9223372036854775807;omega
 rw[lA]at hb;generalize (mL s.data.toList).id=id at *;generalize (mL s.data.toList).ep=ep at *;generalize (mL s.data.toList).val=V at *;have KR:=xh (λw=>qt (w:=w) id ep N P b hb);unfold jN at KR;go_in;go_wp;go_call (K.o _) as e w1 ⟨rfl,aO⟩;have O1:=xh<|aC (xh<|i6 w (WF kT 162)).o aO
 have B1:=xh<|B0.o.below aO B0.o.lt;clear aO B0;go_wp2_with fail;go_call (KI.o _) as e w2 ⟨rfl,cf⟩;have O2:=xh<|aC O1.o cf;have B2:=xh<|B1.o.below cf B1.o.lt;go_wp2_with fail;go_call (KJ.o _) as e w3 ⟨rfl,dk⟩;have O3:=xh<|aC O2.o dk;have B3:=xh<|B2.o.below dk B2.o.lt;go_wp2_with fail;go_call (KU.o _) as e w4 ⟨rfl,fo⟩
 have O4:=xh<|ae (aC O3.o fo) (WF #[id,ep,(N:Int),U2 P] 162);have B4:=xh<|(B3.o.below fo B3.o.lt).alloc (WF #[id,ep,(N:Int),U2 P] 162);have P4:=xh<|aF.new w4 162 #[id,ep,(N:Int),U2 P];go_wp2_with fail;generalize Vy:w4.alloc (WF #[id,ep,(N:Int),U2 P] 162)=w5 at *
 go_call (KR.o _) as e w6 ⟨rfl,zI⟩;have O6:=xh<|aC O4.o zI;have B6:=xh<|B4.o.below zI B4.o.lt;have P6:=xh<|P4.o.below zI P4.o.lt;have z0:=B6.o.frozen 0 (by simp);have z1:=B6.o.frozen 1 (by simp);have z2:=B6.o.frozen 2 (by simp);have z3:=B6.o.frozen 3 (by simp);have c0:=B6.ap 0;have c1:=B6.ap 1;have c2:=B6.ap 2;have c3:=B6.ap 3
 have p0:=P6.ap 0;have p1:=P6.ap 1;have p2:=P6.ap 2;have p3:=P6.ap 3
 cases b
 .have ZB:=xh<|ko B6.o rfl 0 0 0 ⟨#[]⟩;have ZO:=xh<|gW O6.o (ai _) 0 0 0 ⟨#[]⟩;go_wp2_with fail;exact bodyPost_ret (eF rfl rfl ZB.o) rfl ⟨rfl,ZO.o⟩
 .have ZB:=xh<|ko B6.o rfl id ep N P;have ZO:=xh<|gW O6.o (ai _) id ep N P;go_wp2_with fail;exact bodyPost_ret (eF rfl rfl ZB.o) rfl ⟨by rw[HV.o];rfl,ZO.o⟩
attribute [local go_sem ↓] bA
def NC(N k:Nat):pu:=(List.range k).map λj=>gn (N / 256 ^ (k-1-j))
theorem SD(N k:Nat):NC N (k+1)=gn (N / 256 ^ k)::NC N k:=by
 unfold NC;rw[List.range_succ_eq_map,fA,gR]
 congr 1
 apply fW;intro j hj;show gn (N / 256 ^ (k+1-1-(j+1)))=_
 congr 3
 omega
theorem rU_any(N:Nat)(hN:N<18446744073709551616)(w:YB):
  eq prog 188 #[U5 .u64 (N:Nat)] w λe w'=>e=BY (U2 ⟨(wY N).toArray⟩)/\i7 w w':=by
 go_in;go_wp
 go_loopw [0,3,4] (λnv bv iv wr=> ∃k:Nat,k<=8/\nv=U5 .u64 (N / 256 ^ k:Nat)/\iv=U5 By k/\aM wr 5 1 bv k (dR (NC N k))/\Hid (i7 w wr)) (λ_ _ iv _=>8-(intOf iv).toNat)
 case atStart=>exact⟨0,by omega,by simp,rfl,aM.nil _ _ _,xh (Below.refl _ _)⟩
 case round=>
  obtain⟨k,hk,rfl,rfl,S,O⟩:=hrel
  by_cases h:k<8
  .have hI:(k:Int)<8:=by omega
   obtain⟨M,hM⟩:∃M,N / 256 ^ k=M:=⟨_,rfl⟩;have hMlt:M<18446744073709551616:=by rw[<-hM];exact Nat.lt_of_le_of_lt (Nat.div_le_self _ _) hN
   have hM1:N / 256 ^ (k+1)=M / 256:=by rw[<-hM,Af,Nat.div_div_eq_div_mul]
   rw[hM];have HM:=xh<|And.intro hM hM1;obtain⟨VA,vc,rfl⟩:=ax S;have hx:Value.int Nm ((M:Int) % 256)=bv (gn M):=Nz M;obtain⟨v',w2,ea,S2,ow,fr⟩:=oG (P:=prog) (slc_lit wr 5 [U5 Nm ((M:Int) % 256)] (by simp;unfold it;omega)) (S.alloc _) 150 150 (U5 Nm 0) 1 underlying150 ke.eV rfl (by omega) (sQ _) (by simp;unfold it;omega) (by simp;omega);obtain⟨V2,jh,rfl⟩:=ax S2
   have EA:=g9 (dF prog 150 150 (wr.alloc (WF #[U5 Nm ((M:Int) % 256)] 5)) (U3 (lc wr.heap.size) 1 1) (U3 VA k vc)= .ok (U3 V2 (k+1) jh) w2) (by rw[zX k 1];exact ea);have SX:=xh (show aM w2 5 1 (U3 V2 (k+1) jh) (k+1) (dR (NC N (k+1)))from by
    rw[SD,HM.o.1];rw[hx]at S2;have:dR (gn M::NC N k)=[bv (gn M)]++dR (NC N k):=rfl;rw[this,zX k 1];exact S2)
   have OX:=xh<|(ae O.o _).trans (ow.aK (by have:=O.o.size;simp;omega) (by have:=O.o.size;intro x hx;simp[ah]at hx;omega));clear ea S2 ow fr hx S;go_wp;rw[EA.o];go_wp2_with fail;go_roundw
   case rel=>exact⟨k+1,by omega,by rw[HM.o.2];first|rfl|simp,by go_num,SX.o,OX⟩
   case measure=>simp[intOf];omega
  .obtain rfl:k=8:=by omega
   have ST:=xh<|Hd (P:=prog) S 150 9 underlying150 underlying5 underlying9;obtain⟨VA,vc,rfl⟩:=ax S;go_wp;rw[ST.o];go_wp2;go_ret;exact⟨by rfl,O.o⟩
theorem Wr(m:Nat)(h1:m<9223372036854775808)(w:YB):
  eq prog 143 #[(m:Nat)] w λe w'=>e=BY (U2 ⟨(df m).toArray⟩)/\i7 w w':=by
 have hN:(((m:Int)+9223372036854775808) % 18446744073709551616).toNat=m+9223372036854775808:=by omega
 have hNI:((m+9223372036854775808:Nat):Int)=(m:Int)+9223372036854775808:=by omega
 have K:=xh<|rU_any (m+9223372036854775808) (by omega) w;rw[hNI]at K;unfold df;rw[hN];go_in;go_wp;go_call K.o as e w1 ⟨rfl,hb⟩;have HB:=xh hb;go_wp2;go_ret;exact⟨rfl,HB.o⟩
end Pg
namespace Pg
open Go.RowKit Pk
variable{w:YB}
theorem Ws(id ep kd:Int)(s:rd)(h:NA id ep kd=true)(hs:232<s.size):
  eq prog 242 #[jN id ep kd s] w λe w'=>e=BY (U8 #[U2 ⟨#[]⟩,U5 By 4])/\i7 w w':=by
 have B0:=xh<|aF.new w 162 #[id,ep,kd,U2 s];have c3:=B0.ap 3;have K:=xh (λw=>qt (w:=w) id ep kd s true h)
 unfold jN at *;go_in;go_wp;go_call (K.o _) as e w1 ⟨rfl,aO⟩;have O1:=xh<|aC (xh<|i6 w (WF #[id,ep,kd,U2 s] 162)).o aO;have B1:=xh<|B0.o.below aO B0.o.lt;clear aO c3;have c3:=B1.ap 3;go_wp2;go_ret2;exact⟨rfl,O1.o⟩
theorem Wt(N:Nat):(wY N).drop 4=[gn (N / 16777216),gn (N / 65536),gn (N / 256),gn N]:=by
 have e:wY N=[gn (N / 72057594037927936),gn (N / 281474976710656),gn (N / 1099511627776),gn (N / 4294967296),gn (N / 16777216),gn (N / 65536),gn (N / 256),gn (N / 1)]:=rfl;rw[e,Nat.div_one];rfl
theorem Wu(id ep kd:Int)(s:pu)(h:s.length<=232):df id++df ep++(wY kd.toNat).drop 4++ft s 232=ft (mx id ep kd s) 252:=by
 unfold ft mx;have h1:(df id++df ep++(wY kd.toNat).drop 4++s).length=20+s.length:=by simp[fN,qu];omega
 rw[h1,<-cK]
 congr 2;omega
theorem Ju(id ep kd:Int)(s:rd)(hid:id<=9223372036854775807):
  eq prog 242 #[jN id ep kd s] w λe w'=>e=BY (U8 #[U2 ⟨(eg id ep kd s.data.toList).1.toArray⟩,U5 By (eg id ep kd s.data.toList).2])/\i7 w w':=by
 have hl:s.data.toList.length=s.size:=by simp
 unfold eg;rw[hl]
 by_cases h:NA id ep kd=true
 .rw[if_pos h]
  by_cases hs:232<s.size
  .rw[if_pos hs];exact Ws id ep kd s h hs
  .rw[if_neg hs];have hb:=(qs id ep kd).1 h;obtain⟨a,rfl⟩:=dZ hb.1;obtain⟨b,rfl⟩:=dZ hb.2.1;obtain⟨c,rfl⟩:=dZ hb.2.2.2.1;exact Wn a b c s (by omega) (by omega) (by omega) (by omega)
 .rw[if_neg h];exact pput_no id ep kd s (by simpa using h)
theorem ND(s:rd)(k:Nat)(h1:k+8<=s.size)(hs:s.size<=1000000)(w:YB):
  eq prog 189 #[U2 s,(k:Nat)] w λe w'=>e=BY (U8 #[U5 .u64 (mI ((s.data.toList.drop k).take 8):Nat),U5 By ((k:Int)+8),U5 By 0])/\i7 w w':=by
 have HL:=xh (show((s.data.toList.drop k).take 8).length=8 from by simp;omega);go_in;go_wp2_with fail
 go_loopw [7,8] (λnv iv wr=> ∃i:Nat,i<=8/\nv=U5 .u64 (mI (((s.data.toList.drop k).take 8).take i):Nat)/\iv=U5 By i/\i7 w wr) (λ_ iv _=>8-(intOf iv).toNat)
 case atStart=>exact⟨0,by omega,by simp[mI],rfl,Below.refl _ _⟩
 case round=>
  obtain⟨i,hi,rfl,rfl,O⟩:=hrel;have OO:=xh O;clear O
  by_cases h:i<8
  .have hI:(i:Int)<8:=by omega
   have hki:k+i<s.size:=by omega
   have hT:((s.data.toList.drop k).take 8).take (i+1)=((s.data.toList.drop k).take 8).take i++[s[k+i]]:=by
    rw[ik (by rw[HL.o];omega)]
    congr 2
    rw[Nk,List.getElem_drop];rfl
   have ef:=xy (((s.data.toList.drop k).take 8).take i);have hlen:(((s.data.toList.drop k).take 8).take i).length=i:=by rw[bC,HL.o];omega
   rw[hlen]at ef;have hp:256 ^ i<=256 ^ 7:=Ae (by omega) (by omega);have hB:=Js (((s.data.toList.drop k).take 8).take i) s[k+i];rw[<-hT]at hB;have hb:=s[k+i].toNat_lt;generalize mI (((s.data.toList.drop k).take 8).take i)=M at *;have HB:=xh hB;have hM:M<72057594037927936:=by omega
   clear hB hT hlen hp ef;have f1:IntKind.u64.wrap ((M:Int)*256)=(M:Int)*256:=d9;have f2:IntKind.i64.wrap ((k:Int)+(i:Int))=(k:Int)+(i:Int):=dl;have f3:(0:Int)<=(k:Int)+(i:Int):=by omega
   have f4:((k:Int)+(i:Int)).toNat=k+i:=by omega
   have f5:(k:Int)+(i:Int)<(s.size:Int):=by omega
   have f6:IntKind.u64.wrap (s[k+i].toNat:Int)=(s[k+i].toNat:Int):=d9;have f7:IntKind.u64.wrap ((M:Int)*256+(s[k+i].toNat:Int))=(M:Int)*256+(s[k+i].toNat:Int):=d9;go_wp2_with fail;go_roundw
   case rel=>exact⟨i+1,by omega,by rw[HB.o];simp,by go_num,OO.o⟩
   case measure=>simp[intOf];omega
  .obtain rfl:i=8:=by omega
   have hT:((s.data.toList.drop k).take 8).take 8=(s.data.toList.drop k).take 8:=cm (by rw[HL.o];exact ai _);rw[hT];have f2:IntKind.i64.wrap ((k:Int)+8)=(k:Int)+8:=dl;clear hT;go_wp2_with fail
   go_ret3
   exact⟨rfl,OO.o⟩
theorem Bc(s:rd)(k:Nat)(h1:k+8<=s.size)(hs:s.size<=1000000)(w:YB):
  eq prog 144 #[U2 s,(k:Nat)] w λe w'=>e=BY (U8 #[U5 By ((mI ((s.data.toList.drop k).take 8):Int)-9223372036854775808),U5 By ((k:Int)+8),U5 By 0])/\i7 w w':=by
 have ef:=xy ((s.data.toList.drop k).take 8);rw[show((s.data.toList.drop k).take 8).length=8 by simp;omega]at ef;have KU:=xh<|ND s k h1 hs w;generalize mI ((s.data.toList.drop k).take 8)=M at *;have f1:IntKind.i64.wrap (IntKind.u64.wrap ((M:Int)-9223372036854775808))=(M:Int)-9223372036854775808:=by
  by_cases h:M<9223372036854775808
  .have:IntKind.u64.wrap ((M:Int)-9223372036854775808)=(M:Int)-9223372036854775808+18446744073709551616:=by
    unfold IntKind.wrap;simp[IntKind.bits,IntKind.signed];omega
   rw[this];unfold IntKind.wrap;simp[IntKind.bits,IntKind.signed];omega
  .rw[d9,dl]
 go_in;go_wp;go_call KU.o as e w1 ⟨rfl,hb⟩;have HB:=xh hb;go_wp2_with fail
 go_ret3
 exact⟨by first|rfl|(simp;done)|(simp;omega),HB.o⟩
theorem Wv{w:YB}(s:rd):
  eq prog 185 #[U2 s] w λe w'=>e=BY (U8 #[(kn s.data.toList).1.val,U5 By (kn s.data.toList).2])/\i7 w w':=by
 have hl:s.data.toList.length=s.size:=by simp
 unfold kn;rw[hl]
 by_cases h:s.size=256
 .rw[gc]
  by_cases hc:ke.jL (ke.mr (s.data.toList.drop 4))=s.data.toList.take 4
  .rw[if_neg (by simpa using hc)]
   by_cases hb:NA (mL s.data.toList).id (mL s.data.toList).ep (mL s.data.toList).kd=true
   .rw[if_pos hb];simpa using Bb (w:=w) s h hc true hb
   .rw[if_neg hb];simpa using Bb (w:=w) s h hc false (by simpa using hb)
  .rw[if_pos hc];exact Hh s h hc
 .rw[if_pos h];exact Wq s h
end Pg
namespace Dk
open Go.RowKit
variable{F c:pu}{o n i:Nat}
def sec(F:pu)(i:Nat):pu:=(F.drop (64*i)).take 64
def lay(F:pu)(o:Nat)(c:pu):pu:=F.take o++c++F.drop (o+c.length)
def ia(F:pu)(i:Nat)(c:pu):pu:=lay F (64*i) c
theorem jl(h:o+c.length<=F.length):(lay F o c).length=F.length:=by
 simp[lay];omega
theorem vM(F:pu)(o:Nat)(c:pu):putAt (dR F) o (dR c)=dR (lay F o c):=by
 simp[putAt,lay,dR]
theorem nO(hF:F.length=64*n)(hi:i<n):(sec F i).length=64:=by
 simp[sec];omega
theorem qv(h:o+c.length<=F.length)(j:Nat):(lay F o c)[j]?=if o<=j/\j<o+c.length then c[j-o]? else F[j]?:=by
 unfold lay
 by_cases h1:j<o
 .rw[gc,cK,bE (by simp;omega),rl h1]
 .have e:(F.take o).length=o:=by simp;omega
  by_cases h2:j<o+c.length
  .rw[if_pos ⟨by omega,h2⟩,cK,dQ (by omega),e,bE (by omega)]
  .rw[gc,dQ (by simp;omega),iK]
   congr 1
   simp;omega
theorem Aj(F:pu)(i j:Nat):(sec F i)[j]?=if j<64 then F[64*i+j]? else none:=by
 unfold sec
 by_cases h:j<64
 .rw[if_pos h,rl h,iK]
 .rw[if_neg h,gH (by simp;omega)]
theorem QU{k:Nat}(hF:F.length=64*n)(hi:i<n)(hc:c.length=64)(_hk:k<n):sec (ia F i c) k=if i=k then c else sec F k:=by
 apply nM;intro j;rw[Aj];unfold ia;rw[qv (by omega)]
 by_cases hj:j<64
 .rw[if_pos hj,hc]
  by_cases e:i=k
  .subst e;rw[if_pos ⟨by omega,by omega⟩,if_pos rfl]
   congr 1;omega
  .rw[gc,if_neg e,Aj,if_pos hj]
 .rw[if_neg hj]
  split
  .rw[gH (by omega)]
  .rw[Aj,if_neg hj]
def kU(s:pu):pu:=s.take 64++fd (64-s.length) 0
theorem kV(s:pu):(kU s).length=64:=by simp[kU];omega
theorem SG(F s:pu)(hF:F.length=64*n)(hi:i<n):lay (ia F i (fd 64 0)) (64*i) (s.take 64)=ia F i (kU s):=by
 have h0:(ia F i (fd 64 0)).length=F.length:=jl (by simp;omega);apply nM;intro j;have hz:=kV s;rw[qv (by rw[h0];simp;omega)];unfold ia;rw[qv (by simp;omega),qv (by omega),hz];simp only[bC,eR]
 by_cases h1:64*i<=j/\j<64*i+min 64 s.length
 .rw[if_pos h1,g8,kU,bE (by simp;omega)]
 .rw[if_neg h1]
  by_cases h2:64*i<=j/\j<64*i+64
  .rw[if_pos h2,if_pos h2,kU,dQ (by simp;omega),GO,GO];simp only[bC];rw[g8,g8]
  .rw[if_neg h2,if_neg h2]
structure D where
 now:pu
 bj:pu
 loose:List Bool
 bu:Int
 calls:Int
 down:Bool
structure D.Ok(d:D)(n:Nat):Prop where
 now:d.now.length=64*n
 bj:d.bj.length=64*n
 loose:d.loose.length=n
 small:n<=4096
 bu:0<=d.bu
 calls:0<=d.calls
def D.gl(d:D):Int:=if d.down then 13 else 0
def D.kq(d:D)(n:Nat)(i:Int):Int:=if d.down then 13 else if 0<=i/\i<n then 0 else 3
def D.cW(d:D):D×Int:=
 if d.bu=0 then({d with calls:=d.calls+1},0)
 else if d.bu=1 then({d with calls:=d.calls+1,bu:=0,down:=true},13)
 else({d with calls:=d.calls+1,bu:=d.bu-1,down:=false},0)
def D.jc(d:D)(i:Nat):D:=if d.loose.getD i false then d else {d with bj:=ia d.bj i (sec d.now i),loose:=d.loose.set i true}
def D.eg(d:D)(i:Nat)(s:pu):D:={d.jc i with now:=ia d.now i (kU s)}
def D.aG(d:D)(n:Nat)(i:Int)(s:pu):D×Int:=
 if d.kq n i=0 then(d.eg i.toNat s).cW else(d,d.kq n i)
def D.eM(d:D):D×Int:=
 if d.down then(d,13)else if d.cW.2=0 then({d.cW.1 with loose:=fd d.loose.length false},0)else d.cW
theorem D.Ok.count{d:D}(h:d.Ok n):(d.cW).1.Ok n:=by
 have:=h.calls;have:=h.bu;unfold D.cW
 split
 .exact⟨h.now,h.bj,h.loose,h.small,h.bu,by show 0<=d.calls+1;omega⟩
 .split
  .exact⟨h.now,h.bj,h.loose,h.small,ki 0,by show 0<=d.calls+1;omega⟩
  .exact⟨h.now,h.bj,h.loose,h.small,by show 0<=d.bu-1;omega,by show 0<=d.calls+1;omega⟩
theorem D.Ok.pf{d:D}(h:d.Ok n)(i:Nat)(hi:i<n):(d.jc i).Ok n:=by
 unfold D.jc
 split
 .exact h
 .have e:=nO h.now hi;have:=h.bj;exact⟨h.now,by show(ia d.bj i (sec d.now i)).length=_;unfold ia;rw[jl (by omega)];exact h.bj,by show(d.loose.set i true).length=_;rw[bV];exact h.loose,h.small,h.bu,h.calls⟩
theorem D.Ww(d:D)(i:Nat):(d.jc i).now=d.now:=by unfold D.jc;split<;>rfl
theorem D.Ok.put{d:D}(h:d.Ok n)(i:Nat)(s:pu)(hi:i<n):(d.eg i s).Ok n:=by
 have hk:=h.pf i hi;have e:=kV s;have:=h.now;exact⟨by show(ia d.now i (kU s)).length=_;unfold ia;rw[jl (by omega)];exact h.now,hk.bj,hk.loose,hk.small,hk.bu,hk.calls⟩
theorem D.Ok.write{d:D}(h:d.Ok n)(i:Int)(s:pu):(d.aG n i s).1.Ok n:=by
 unfold D.aG
 split
 .rename_i ha;have hi:0<=i/\i<n:=by
   unfold D.kq at ha
   split at ha
   .cases ha
   .split at ha
    .assumption
    .cases ha
  exact(h.put i.toNat s (by omega)).count
 .exact h
theorem D.Ok.sync{d:D}(h:d.Ok n):(d.eM).1.Ok n:=by
 have hc:=h.count;unfold D.eM
 split
 .exact h
 .split
  .exact⟨hc.now,hc.bj,by show(fd d.loose.length false).length=n;simp;exact h.loose,hc.small,hc.bu,hc.calls⟩
  .exact hc
variable{w:YB}{g:Nat}{t:pm}{l:List YO}
noncomputable def QV(w:YB)(v:YO):Result YO:=(Instr.loadAt 152 v).run prog w
noncomputable def QW(w:YB)(a v:YO):Result Unit:=(Instr.storeAt 152 a v).run prog w
theorem Hi(ρ:Operand->YO)(dst:Option Tmp)(x:Operand)(t:pm)(p:String)(af:Array Edge)(g:Option (Nat×Bool))(w:YB):
  (execOp ρ {dst:=dst,op:= .load 152 x,type:=t,pos:=p,after:=af,guard:=g}).run prog w=(QV w (ρ x)).andThen λv w'=> .ok (.value v) w':=by
 simp only[execOp,Sem.run_bind,Sem.run_pure];rfl
theorem Hj(ρ:Operand->YO)(dst:Option Tmp)(x y:Operand)(t:pm)(p:String)(af:Array Edge)(g:Option (Nat×Bool))(w:YB):
  (execOp ρ {dst:=dst,op:= .store 152 x y,type:=t,pos:=p,after:=af,guard:=g}).run prog w=(QW w (ρ x) (ρ y)).andThen λ_ w'=> .ok .skip w':=by
 simp only[execOp,Sem.run_bind,Sem.run_pure];rfl
noncomputable def ru:YO:= .agg (dR (fd 64 0)).toArray
theorem xC(ρ:Operand->YO)(dst:Option Tmp)(t:pm)(p:String)(af:Array Edge)(g:Option (Nat×Bool))(w:YB):
  (execOp ρ {dst:=dst,op:= .build 152 #[],type:=t,pos:=p,after:=af,guard:=g}).run prog w=.ok (.value ru) w:=by kernel_rfl
theorem Jv:prog.underlying 152=some (.array 64 5):=underlying152
theorem Bd:(prog.info? 152).map (·.size)=some 64:=by kernel_rfl
theorem Wx(B:aF w g t l.toArray)(o:Nat)(c:List YO)(hc:c.length=64)(h:∀j v,c[j]?=some v->l[o+j]?=some v):
  QV w (U7 (some ⟨g,o,none⟩))= .ok (.agg c.toArray) w:=by
 have hl:=run_loadCells_list (P:=prog) w ⟨g,o,none⟩ c (bm B o c h);rw[hc]at hl;unfold QV Instr.loadAt;obtain⟨i,hi,hs⟩:∃i,prog.info? 152=some i/\i.size=64:=by
  have:=Bd
  cases hq:prog.info? 152 with
  |none=>rw[hq]at this;cases this
  |some i=>rw[hq]at this;exact⟨i,rfl,by simpa using this⟩
 simp[Instr.sureAddr,loadVar,isAgg,run_underlying Jv,sizeOf,typeInfo,hi,hs,hl,Result.andThen]
theorem Jw(B:aF w g t l.toArray)(o:Nat)(c:List YO)(hc:c.length=64)(ho:o+64<=l.length)(h1:∀v∈c,v.oneCell'=true):
  ∃w',QW w (U7 (some ⟨g,o,none⟩)) (.agg c.toArray)= .ok () w'/\aF w' g t (putAt l o c).toArray/\ag [g] w w':=by
 have tV:=run_storeCells_cells (P:=prog) g o c 0 w (λj hj=>by rw[B.cell];simp;omega) (λj hj=>B.frozen _ (by simp;omega)) h1;refine⟨w.setCells g o c,?_,B.setCells c o (by omega),(ag.refl _ _).setCells c o (by simp)⟩;unfold QW Instr.storeAt;obtain⟨i,hi,hs⟩:∃i,prog.info? 152=some i/\i.size=64:=by
  have:=Bd
  cases hq:prog.info? 152 with
  |none=>rw[hq]at this;cases this
  |some i=>rw[hq]at this;exact⟨i,rfl,by simpa using this⟩
 simp only[ma]at tV;simp[Instr.sureAddr,storeVar,Value.cells,sizeOf,typeInfo,hi,hs,hc,tV,Result.andThen]
variable{w:YB}{n:Nat}{d:D}
structure Loc where
 b:Nat
 gN:Nat
 gO:Nat
 gL:Nat
def Loc.fp(L:Loc):List Nat:=[L.b,L.gN,L.gO,L.gL]
def qR(l:List Bool):List YO:=l.map Value.bool
@[simp] theorem bools_length(l:List Bool):(qR l).length=l.length:=by simp[qR]
theorem ET(l:List Bool)(k:Nat)(h:k<l.length):(qR l)[k]?=some (U6 (l.getD k false)):=by
 simp[qR,List.getD,h]
theorem SH(l:List Bool)(k:Nat)(x:Bool):(qR l).set k (U6 x)=qR (l.set k x):=by simp[qR]
def fields(L:Loc)(n:Nat)(d:D):Array YO:=
 #[U3 (lc L.gN) n n,U3 (lc L.gO) n n,U3 (lc L.gL) n n,U5 By d.bu,U5 By d.calls,U6 d.down]
structure bf(w:YB)(L:Loc)(n:Nat)(d:D):Prop where
 hb:aF w L.b 149 (fields L n d)
 hN:aF w L.gN 152 (dR d.now).toArray
 hO:aF w L.gO 152 (dR d.bj).toArray
 hL:aF w L.gL 4 (qR d.loose).toArray
 ne:L.gN≠L.gO
 ok:d.Ok n
section
variable{w w':YB}{L:Loc}{n:Nat}{d:D}{S:List Nat}
theorem bf.only(h:bf w L n d)(ho:ag S w w')(hd:∀x∈L.fp,x∉S):bf w' L n d:=
 ⟨h.hb.only ho (hd _ (by simp[Loc.fp])),h.hN.only ho (hd _ (by simp[Loc.fp])),h.hO.only ho (hd _ (by simp[Loc.fp])),h.hL.only ho (hd _ (by simp[Loc.fp])),h.ne,h.ok⟩
theorem bf.below(h:bf w L n d)(hb:i7 w w'):bf w' L n d:=h.only (S:=[]) (.aj hb) (by simp)
theorem bf.drew(h:bf w L n d):bf w.drew L n d:=⟨h.hb,h.hN,h.hO,h.hL,h.ne,h.ok⟩
theorem bf.lt(h:bf w L n d):∀x∈L.fp,x<w.heap.size:=by
 intro x hx;simp only[Loc.fp,ar,ij,or_false]at hx
 rcases hx with rfl|rfl|rfl|rfl
 .exact h.hb.lt
 .exact h.hN.lt
 .exact h.hO.lt
 .exact h.hL.lt
theorem bf.bN(h:bf w L n d):L.b≠L.gN:=h.hb.jJ h.hN (by decide)
theorem bf.bO(h:bf w L n d):L.b≠L.gO:=h.hb.jJ h.hO (by decide)
theorem bf.bL(h:bf w L n d):L.b≠L.gL:=h.hb.jJ h.hL (by decide)
theorem bf.LN(h:bf w L n d):L.gL≠L.gN:=h.hL.jJ h.hN (by decide)
theorem bf.LO(h:bf w L n d):L.gL≠L.gO:=h.hL.jJ h.hO (by decide)
theorem bf.f0(h:bf w L n d):w.cell? (lc L.b)=some (U3 (lc L.gN) n n):=h.hb.ab rfl
theorem bf.f1(h:bf w L n d):w.cell? ⟨L.b,1,none⟩=some (U3 (lc L.gO) n n):=h.hb.ab rfl
theorem bf.f2(h:bf w L n d):w.cell? ⟨L.b,2,none⟩=some (U3 (lc L.gL) n n):=h.hb.ab rfl
theorem bf.f3(h:bf w L n d):w.cell? ⟨L.b,3,none⟩=some (d.bu:li):=h.hb.ab rfl
theorem bf.f4(h:bf w L n d):w.cell? ⟨L.b,4,none⟩=some (d.calls:li):=h.hb.ab rfl
theorem bf.f5(h:bf w L n d):w.cell? ⟨L.b,5,none⟩=some (U6 d.down):=h.hb.ab rfl
theorem bf.fz(h:bf w L n d)(i:Nat)(hi:i<6):w.frozen? ⟨L.b,i,none⟩=false:=h.hb.frozen i (by simpa [fields]using hi)
theorem bf.head(h:bf w L n d){d':D}(B:aF w' L.b 149 (fields L n d'))(ho:ag [L.b] w w')(e1:d'.now=d.now)(e2:d'.bj=d.bj)(e3:d'.loose=d.loose)(gj:d'.Ok n):bf w' L n d':=by
 refine⟨B,?_,?_,?_,h.ne,gj⟩
 .rw[e1];exact h.hN.only ho (by simp;exact λe=>h.bN e.symm)
 .rw[e2];exact h.hO.only ho (by simp;exact λe=>h.bO e.symm)
 .rw[e3];exact h.hL.only ho (by simp;exact λe=>h.bL e.symm)
end
def dp(b:Nat):YO:=U7 (some ⟨b,0,none⟩)
theorem jE{L:Loc}(h:bf w L n d):
  eq prog 77 #[dp L.b] w λe w'=>e=BY d.gl/\w=w':=by
 have f5:=h.f5;unfold dp D.gl
 cases hd:d.down
 all_goals
  rw[hd]at f5;go_in
  go_wp2
  go_ret;exact⟨rfl,rfl⟩
theorem ry{L:Loc}(h:bf w L n d)(i:Int):
  eq prog 134 #[dp L.b,i] w λe w'=>e=BY (U5 By (d.kq n i))/\w=w':=by
 have f0:=h.f0;have K:=xh<|jE h;unfold D.gl at K;unfold D.kq;unfold dp at *
 cases hd:d.down
 .rw[hd]at K;simp only[mJ,if_false]at K ⊢
  by_cases hi:0<=i/\i<n
  .rw[if_pos hi];obtain⟨h0,h1⟩:=hi;go_in;go_wp;go_call K.o as e w1 ⟨rfl,rfl⟩;go_wp2;go_ret;exact⟨rfl,rfl⟩
  .rw[if_neg hi];have qk:i<0\/(¬i<0/\(n:Int)<=i):=by omega
   rcases qk with h1|⟨h1,h2⟩
   all_goals
    go_in;go_wp;go_call K.o as e w1 ⟨rfl,rfl⟩;go_wp2;go_ret;exact⟨rfl,rfl⟩
 .rw[hd]at K;simp only[if_true]at K ⊢;go_in;go_wp;go_call K.o as e w1 ⟨rfl,rfl⟩;go_wp2;go_ret;exact⟨rfl,rfl⟩
theorem uG{L:Loc}(h:bf w L n d)(hc:d.calls<=4000000000000000000)(ha:d.bu<=9223372036854775807):
  eq prog 159 #[dp L.b] w λe w'=>e=BY d.cW.2/\bf w' L n d.cW.1/\ag [L.b] w w':=by
 have f3:=h.f3;have f4:=h.f4;have z3:=h.fz 3 (by omega);have z4:=h.fz 4 (by omega);have z5:=h.fz 5 (by omega);have f5:=h.f5;have a0:=h.ok.bu;have c0:=h.ok.calls;have H:=xh h;have B:=xh h.hb;have OKC:=xh h.ok.count
 by_cases h0:d.bu=0
 .have e1:d.cW=({d with calls:=d.calls+1},0):=by unfold D.cW;rw[if_pos h0]
  rw[e1];rw[e1]at OKC;rw[h0]at f3;clear h0 e1;unfold dp;go_in;go_wp2;go_ret;have o1:ag [L.b] w (w.setCell ⟨L.b,4,none⟩ (U5 By (d.calls+1))):=(ag.refl _ _).setCell (by simp) _;exact⟨rfl,H.o.head (B.o.cw 4 _) o1 rfl rfl rfl OKC.o,o1⟩
 .by_cases h1:d.bu=1
  .have e1:d.cW=({d with calls:=d.calls+1,bu:=0,down:=true},13):=by unfold D.cW;rw[if_neg h0,if_pos h1]
   rw[e1];rw[e1]at OKC;rw[h1]at f3;have o1:ag [L.b] w (((w.setCell ⟨L.b,4,none⟩ (U5 By (d.calls+1))).setCell ⟨L.b,3,none⟩ (U5 By 0)).setCell ⟨L.b,5,none⟩ (U6 true)):=(((ag.refl _ _).setCell (by simp) _).setCell (by simp) _).setCell (by simp) _;have D1:=H.o.head (d':={d with calls:=d.calls+1,bu:=0,down:=true}) ((((B.o.cw 4 (U5 By (d.calls+1))).cw 3 (U5 By 0)).cw 5 (U6 true))) o1 rfl rfl rfl OKC.o;have K:=xh<|jE D1;have D1:=xh D1
   have O1:=xh o1;unfold D.gl dp at *;go_in;go_wp;go_call K.o as e w1 ⟨rfl,rfl⟩;go_wp2;go_ret;exact⟨rfl,D1.o,O1.o⟩
  .have e1:d.cW=({d with calls:=d.calls+1,bu:=d.bu-1,down:=false},0):=by unfold D.cW;rw[if_neg h0,if_neg h1]
   rw[e1];rw[e1]at OKC;have o1:ag [L.b] w (((w.setCell ⟨L.b,4,none⟩ (U5 By (d.calls+1))).setCell ⟨L.b,3,none⟩ (U5 By (d.bu-1))).setCell ⟨L.b,5,none⟩ (U6 false)):=(((ag.refl _ _).setCell (by simp) _).setCell (by simp) _).setCell (by simp) _;have D1:=H.o.head (d':={d with calls:=d.calls+1,bu:=d.bu-1,down:=false}) ((((B.o.cw 4 (U5 By (d.calls+1))).cw 3 (U5 By (d.bu-1))).cw 5 (U6 false))) o1 rfl rfl rfl OKC.o;have K:=xh<|jE D1
   have D1:=xh D1;have O1:=xh o1
   have t1:(d.bu-1==0)=false:=by simp;omega
   unfold D.gl dp at *;go_in;go_wp;go_call K.o as e w1 ⟨rfl,rfl⟩;go_wp2;go_ret;exact⟨rfl,D1.o,O1.o⟩
attribute [local go_sem ↓] Hi Hj xC
variable{k n:Nat}{w:YB}{L:Loc}
theorem EU{F:pu}(j:Nat)(v:YO)(h:(dR (sec F k))[j]?=some v):(dR F)[k*64+j]?=some v:=by
 rw[Ag,Aj]at h;rw[Ag]
 split at h
 .rw[show k*64+j=64*k+j by omega];exact h
 .simp at h
def D.aP(d:D)(n:Nat)(i:Int):pu×Int:=if d.kq n i=0 then(sec d.now i.toNat,0)else([],d.kq n i)
theorem Wy{d:D}{i:Int}(h:d.kq n i=0):0<=i/\i<n:=by
 unfold D.kq at h
 split at h
 .cases h
 .split at h
  .assumption
  .cases h
theorem EV(d:D)(n:Nat)(i:Int):d.kq n i=0\/((d.kq n i==0)=false):=by
 by_cases h:d.kq n i=0
 .exact .inl h
 .exact .inr (by simpa using h)
theorem ph{d:D}(h:bf w L n d)(i:Int):
  eq prog 79 #[dp L.b,i] w λe w'=>e=BY (U8 #[U2 ⟨(d.aP n i).1.toArray⟩,U5 By (d.aP n i).2])/\w=w':=by
 have K:=xh<|ry h i
 rcases EV d n i with ha|ha
 .have hi:=Wy ha;have e1:d.aP n i=(sec d.now i.toNat,0):=by unfold D.aP;rw[if_pos ha]
  rw[e1];rw[ha]at K;obtain⟨k,rfl⟩:=dZ hi.1;have hk:k<n:=by omega
  have f0:=h.f0;have HS:=xh<|(λ(a b:Nat) (ha:64=a) (hb:k*64=b)=>(cu (P:=prog) w 150 9 5 underlying150 underlying5 underlying9 ⟨L.gN,b,none⟩ a a (sec d.now k) (ha▸nO h.ok.now hk) (hb▸bm h.hN (k*64) _ EU))) 64 (k*64) rfl rfl;clear e1 ha hi h;unfold dp at *;go_in;go_wp;go_call K.o as e w1 ⟨rfl,rfl⟩;go_wp2_with fail;rw[HS.o];go_wp2;go_ret2;exact⟨rfl,rfl⟩
 .have e1:d.aP n i=([],d.kq n i):=by unfold D.aP;rw[if_neg (by simpa using ha)]
  rw[e1];generalize d.kq n i=x at *;unfold dp at *;go_in;go_wp;go_call K.o as e w1 ⟨rfl,rfl⟩;go_wp2;go_ret2;exact⟨rfl,rfl⟩
theorem SJ(F:pu)(s:rd)(hF:F.length=64*n)(hk:k<n):
  putAt (putAt (dR F) (k*64) (dR (fd 64 0))) (k*64) (dR (s.data.toList.take (Nat.min s.size 64)))=dR (ia F k (kU s.data.toList)):=by
 rw[vM,vM,<-SG F s.data.toList hF hk];have e:s.data.toList.take (Nat.min s.size 64)=s.data.toList.take 64:=by
  rcases Nat.le_total s.size 64 with h|h
  .rw[show Nat.min s.size 64=s.size from sM h,cm (by simp),cm (by simpa using h)]
  .rw[show Nat.min s.size 64=64 from Nat.min_eq_right h]
 rw[e,show k*64=64*k from vF _ _];rfl
theorem ql:(prog.info? 5).map (·.size)=some 1:=by kernel_rfl
theorem QX{d:D}(h:bf w L n d)(k:Nat)(hk:k<n)(s:rd):
  ∃w1,QW w (U7 (some ⟨L.gN,k*64,none⟩)) ru=.ok () w1/\ag [L.gN] w w1/\
   ∃w2,(Builtin.copy_ #[150,9] 3 #[U3 (some ⟨L.gN,k*64,none⟩) 64 64,U2 s]).run prog w1=.ok (goInt (Nat.min s.size 64)) w2/\bf w2 L n {d with now:=ia d.now k (kU s.data.toList)}/\ag [L.gN] w w2:=by
 have hlen:=h.ok.now;obtain⟨w1,e1,B1,o1⟩:=Jw h.hN (k*64) (dR (fd 64 0)) (by simp) (by simp;omega) (sQ _);obtain⟨w2,e2,B2,o2⟩:=oF (P:=prog) B1 150 9 3 5 (k*64) 64 64 s (Nat.min s.size 64) underlying150 ql rfl (by rw[kS (by simp;omega)];have hm:Nat.min s.size 64<=64:=Nat.min_le_right _ _;rw[kk,hlen];omega);rw[SJ _ _ hlen hk]at B2;have o:=o1.trans o2
 refine⟨w1,e1,o1,w2,e2,⟨h.hb.only o (by simp;exact h.bN),B2,h.hO.only o (by simp;exact λe=>h.ne e.symm),h.hL.only o (by simp;exact h.LN),h.ne,?_⟩,o⟩;have:=kV s.data.toList;exact⟨by show(ia d.now k _).length=_;unfold ia;rw[jl (by omega)];exact hlen,h.ok.bj,h.ok.loose,h.ok.small,h.ok.bu,h.ok.calls⟩
theorem Wz{w':YB}{d:D}(h:bf w L n d)(o:ag [L.gN] w w'):w'.cell? (lc L.b)=some (U3 (lc L.gN) n n):=
 (o.cell h.hb.lt (by simp;exact h.bN)).trans h.f0
theorem SO{d:D}(h:bf w L n d)(k:Nat)(hk:k<n)(s:rd)(ha:d.kq n k=0)(hc:d.calls<=4000000000000000000)(hr:d.bu<=9223372036854775807)(hl:d.loose.getD k false=false):
  eq prog 103 #[dp L.b,k,U2 s] w λe w'=>e=BY (U5 By ((d.eg k s.data.toList).cW).2)/\bf w' L n ((d.eg k s.data.toList).cW).1/\ag L.fp w w':=by
 have K:=xh<|ry h k;have hn:=h.ok.small;rw[ha]at K;have f0:=h.f0;have f1:=h.f1;have f2:=h.f2;have cl:w.cell? ⟨L.gL,k,none⟩=some (U6 false):=by
  rw[<-hl];refine h.hL.ab ?_;rw[cN,ET _ _ (by rw[h.ok.loose];exact hk)]
 have Be:d.jc k={d with bj:=ia d.bj k (sec d.now k),loose:=d.loose.set k true}:=by unfold D.jc;rw[hl];rfl
 have uH:d.eg k s.data.toList={d.jc k with now:=ia (d.jc k).now k (kU s.data.toList)}:=by unfold D.eg;rw[D.Ww]
 have DC:(d.jc k).calls=d.calls:=by rw[Be]
 have DA:(d.jc k).bu=d.bu:=by rw[Be]
 have gj:=h.ok.pf k hk;rw[uH];have hld:QV w.drew (U7 (some ⟨L.gN,k*64,none⟩))= .ok (.agg (dR (sec d.now k)).toArray) w.drew:=Wx h.hN.drew (k*64) _ (by rw[kk,nO h.ok.now hk]) EU;obtain⟨w2,tV,B2,o2⟩:=Jw h.hO.drew (k*64) (dR (sec d.now k)) (by rw[kk,nO h.ok.now hk]) (by have:=h.ok.bj;simp;omega) (sQ _);have cl2:w2.cell? ⟨L.gL,k,none⟩=some (U6 false):=(o2.cell (cZ cl) (by simp;exact h.LO)).trans cl
 have fl2:w2.frozen? ⟨L.gL,k,none⟩=false:=(o2.frozen (cZ cl) (by simp;exact h.LO)).trans (h.hL.frozen k (by simp;rw[h.ok.loose];exact hk));have o2':ag L.fp w w2:=⟨o2.os,o2.tape,o2.output,o2.size,λb hb hn=>o2.block b hb (by simp[Loc.fp]at hn ⊢;exact hn.2.2.1)⟩;have hD:bf (w2.setCell ⟨L.gL,k,none⟩ (U6 true)) L n (d.jc k):=by
  rw[Be]at gj ⊢;have B3:=((h.hL.drew.only o2 (by simp;exact h.LO)).cw k (U6 true));rw[sJ,SH]at B3;rw[vM]at B2;refine⟨(h.hb.drew.only o2 (by simp;exact h.bO)).aY (by exact h.bL) _,(h.hN.drew.only o2 (by simp;exact h.ne)).aY (by exact λe=>h.LN e.symm) _,?_,B3,h.ne,gj⟩;have:=B2.aY (p:=⟨L.gL,k,none⟩) (λe=>h.LO e.symm) (U6 true)
  rwa [show k*64=64*k from vF _ _]at this
 have oD:ag L.fp w (w2.setCell ⟨L.gL,k,none⟩ (U6 true)):=o2'.setCell (by simp[Loc.fp]) _;clear Be uH gj ha B2 o2 o2' h;generalize d.jc k=d1 at *;unfold dp at *;go_in;go_wp;go_call K.o as e w1 ⟨rfl,rfl⟩;go_wp2_with fail
 go_region
 generalize w2.setCell ⟨L.gL,k,none⟩ (U6 true)=w3 at *;have f0':=hD.f0;obtain⟨w4,st4,o4,w5,cp5,D5,o5⟩:=QX hD k hk s;have f04:=Wz hD o4;have CP:=xh cp5;have KC:=xh<|uG D5 (by rw[DC];exact hc) (by rw[DA];exact hr);have O5:=xh<|oD.trans (o5.mono (S':=L.fp) (by simp[Loc.fp]));clear hD oD cp5 D5 o4 o5 DC DA;unfold dp at KC;go_wp;rw[CP.o];go_wp2_with fail;refine KC.o.mono ?_
 rintro e w6 ⟨rfl,D6,o6⟩;go_wp2;go_ret;exact⟨rfl,D6,O5.o.trans (o6.mono (by simp[Loc.fp]))⟩
theorem SU{d:D}(h:bf w L n d)(k:Nat)(hk:k<n)(s:rd)(ha:d.kq n k=0)(hc:d.calls<=4000000000000000000)(hr:d.bu<=9223372036854775807)(hl:d.loose.getD k false=true):
  eq prog 103 #[dp L.b,k,U2 s] w λe w'=>e=BY (U5 By ((d.eg k s.data.toList).cW).2)/\bf w' L n ((d.eg k s.data.toList).cW).1/\ag L.fp w w':=by
 have K:=xh<|ry h k;rw[ha]at K;have f2:=h.f2;have cl:w.cell? ⟨L.gL,k,none⟩=some (U6 true):=by
  rw[<-hl];refine h.hL.ab ?_;rw[cN,ET _ _ (by rw[h.ok.loose];exact hk)]
 have Be:d.jc k=d:=by unfold D.jc;rw[hl];rfl
 have uH:d.eg k s.data.toList={d with now:=ia d.now k (kU s.data.toList)}:=by unfold D.eg;rw[Be]
 rw[uH];have hD:=h;have DC:d.calls=d.calls:=rfl;clear Be uH ha h DC;unfold dp at *;have f0':=hD.f0;obtain⟨w4,st4,o4,w5,cp5,D5,o5⟩:=QX hD k hk s;have f04:=Wz hD o4;have CP:=xh cp5;have KC:=xh<|uG D5 hc hr;have HD:=xh D5;have O5:=xh<|(ag.refl _ _).trans (o5.mono (S':=L.fp) (by simp[Loc.fp]));clear hD cp5 D5 o4 o5;unfold dp at KC;go_in
 go_wp2_with fail;go_call K.o as e w1 ⟨rfl,rfl⟩;go_wp2_with fail;rw[CP.o];go_wp2_with fail;go_call KC.o as e w6 ⟨rfl,D6,o6⟩;go_wp2;go_ret;exact⟨rfl,D6,O5.o.trans (o6.mono (by simp[Loc.fp]))⟩
end Dk
namespace Dk
open Go.RowKit
variable{w:YB}{L:Loc}{n:Nat}{d:D}
theorem lM(h:bf w L n d)(i:Int)(s:rd)(hc:d.calls<=4000000000000000000)(hr:d.bu<=9223372036854775807):
  eq prog 103 #[dp L.b,i,U2 s] w λe w'=>e=BY (U5 By (d.aG n i s.data.toList).2)/\bf w' L n (d.aG n i s.data.toList).1/\ag L.fp w w':=by
 rcases EV d n i with ha|ha
 .have hi:=Wy ha;obtain⟨k,rfl⟩:=dZ hi.1;have e1:d.aG n k s.data.toList=(d.eg k s.data.toList).cW:=by unfold D.aG;rw[if_pos ha];rfl
  rw[e1]
  cases hl:d.loose.getD k false
  .exact SO h k (by omega) s ha hc hr hl
  .exact SU h k (by omega) s ha hc hr hl
 .have e1:d.aG n i s.data.toList=(d,d.kq n i):=by unfold D.aG;rw[if_neg (by simpa using ha)]
  rw[e1];have K:=xh<|ry h i;have H:=xh h;generalize d.kq n i=x at *;unfold dp at *;go_in;go_wp;go_call K.o as e w1 ⟨rfl,rfl⟩;go_wp2;go_ret;exact⟨rfl,H.o,ag.refl _ _⟩
theorem El(z:YO)(n:Nat):(Builtin.zeroCells #[z] n).toList=fd n z:=by
 unfold Builtin.zeroCells;apply xq
 .simp
 .intro i h1 h2;simp[Nat.mod_one]
theorem SW(l c:List YO)(h:l.length=c.length):putAt l 0 c=c:=by
 simp[putAt,h]
theorem Ta{P:Program}{g:Nat}{t T e:pm}{l:List YO}(B:aF w g t l.toArray)(ht:P.underlying T=some (.slice e)){z:YO}(hz:∀w,(zeroValue e).run P w=.ok z w)(h1:z.cells= #[z])(jK:z.oneCell'=true)(ty:pm)(n c:Nat)(hn:l.length=n):
  ∃w',(Builtin.clear_ #[T] ty #[U3 (lc g) n c]).run P w=.ok (U8 #[]) w'/\aF w' g t (fd n z).toArray/\ag [g] w w':=by
 rcases zY n with h0|h0
 .subst h0;have:l=[]:=oO hn;subst this;exact⟨w,by simp[Builtin.clear_,run_underlying ht],B,ag.refl _ _⟩
 .have tV:=run_storeCells_cells (P:=P) g 0 (fd n z) 0 w (λj hj=>by rw[B.cell];simp at hj ⊢;omega) (λj hj=>B.frozen _ (by simp at hj ⊢;omega)) (by intro v hv;rw[(List.mem_replicate.1 hv).2];exact jK);refine⟨w.setCells g 0 (fd n z),?_,?_,(ag.refl _ _).setCells _ 0 (by simp)⟩
  .obtain⟨m,rfl⟩:∃m,n=m+1:=⟨n-1,by omega⟩;simp only[ma]at tV;simp[Builtin.clear_,run_underlying ht,hz,h1,El,tV,Result.andThen]
  .have:=B.setCells (fd n z) 0 (by simp;omega)
   rwa [SW _ _ (by simp;omega)]at this
theorem Bf(h:bf w L n d)(hc:d.calls<=4000000000000000000)(hr:d.bu<=9223372036854775807):
  eq prog 104 #[dp L.b] w λe w'=>e=BY d.eM.2/\bf w' L n d.eM.1/\ag L.fp w w':=by
 have K:=xh<|jE h;have KC:=xh<|uG h hc hr;have Em:=xh h.ok.sync;unfold D.gl at K
 cases hd:d.down
 .rw[hd]at K;simp only[mJ,if_false]at K
  by_cases h0:d.cW.2=0
  .have e1:d.eM=({d.cW.1 with loose:=fd d.loose.length false},0):=by
    unfold D.eM;rw[hd,i8,if_pos h0]
   rw[h.ok.loose]at e1;rw[e1];rw[e1]at Em;rw[h0]at KC;have MQ:d.cW.1.loose.length=n:=by
    have:=h.ok.count.loose;exact this
   clear e1 h0 hd h;generalize d.cW.1=d1 at *;unfold dp at *;go_in;go_wp;go_call K.o as e w1 ⟨rfl,rfl⟩;go_wp2_with fail;go_call KC.o as e w2 ⟨rfl,D2,o2⟩;have f2:=D2.f2;obtain⟨w3,ec,B3,o3⟩:=Ta (P:=prog) D2.hL underlying65 (z:=U6 false) (λ_=>by kernel_rfl) rfl rfl 0 n n (by simpa using MQ);have EC:=xh ec;clear ec MQ;go_wp2_with fail;rw[EC.o];go_wp2;go_ret
   refine⟨rfl,⟨D2.hb.only o3 (by simp;exact D2.bL),D2.hN.only o3 (by simp;exact λe=>D2.LN e.symm),D2.hO.only o3 (by simp;exact λe=>D2.LO e.symm),?_,D2.ne,Em.o⟩,(o2.mono (by simp[Loc.fp])).trans (o3.mono (by simp[Loc.fp]))⟩;simpa [qR]using B3
  .have e1:d.eM=d.cW:=by
    unfold D.eM;rw[hd,i8,if_neg h0]
   rw[e1];have fF:(d.cW.2==0)=false:=by simpa using h0
   generalize d.cW=dd at *;obtain⟨d1,x⟩:=dd;simp only at fF KC;unfold dp at *;go_in;go_wp;go_call K.o as e w1 ⟨rfl,rfl⟩;go_wp2_with fail;go_call KC.o as e w2 ⟨rfl,D2,o2⟩;go_wp2;go_ret;exact⟨rfl,D2,o2.mono (by simp[Loc.fp])⟩
 .rw[hd]at K;simp only[if_true]at K;have e1:d.eM=(d,13):=by unfold D.eM;rw[hd,if_pos rfl]
  rw[e1];have H:=xh h;unfold dp at *;go_in;go_wp;go_call K.o as e w1 ⟨rfl,rfl⟩;go_wp2;go_ret;exact⟨rfl,H.o,ag.refl _ _⟩
theorem Jx(h:bf w L n d):
  eq prog 182 #[dp L.b] w λe w'=>e=BY n/\w=w':=by
 have f0:=h.f0;unfold dp;go_in
 go_wp2
 go_ret;exact⟨rfl,rfl⟩
attribute [local go_sem ↓] Hi Hj xC
def D.zero(n:Nat):D:={now:=fd (64*n) 0,bj:=fd (64*n) 0,loose:=fd n false,bu:=0,calls:=0,down:=false}
theorem NG:(prog.info? 152).map (λi=>(i.zero,i.size,i.bytes))=some (some ru,64,64):=by kernel_rfl
theorem Tb:(prog.info? 4).map (λi=>(i.zero,i.size,i.bytes))=some (some (U6 false),1,1):=by kernel_rfl
theorem zJ(n:Nat):madeCells ru.cells (n*64)=(dR (fd (64*n) 0)).toArray:=by
 have h0:ru.cells=(fd 64 (Value.int Nm 0)).toArray:=by
  show(dR (fd 64 0)).toArray=_;rw[dR,List.map_replicate];rfl
 have hz:∀k,k<64->ru.cells[k]! =U5 Nm 0:=by
  intro k h;rw[h0,getElem!_pos _ k (by rw[j9,eR];exact h),List.getElem_toArray,List.getElem_replicate]
 have hs:ru.cells.size=64:=by rw[h0,j9,eR]
 apply Array.ext
 .simp[size_madeCells];omega
 .intro i h1 h2;simp only[madeCells,hs];rw[Array.getElem_map,Array.getElem_range,hz _ (sN _ (by decide))];simp[dR,bv]
def fY(n:Nat):Obj:=WF (dR (fd (64*n) 0)).toArray 152
def mM(n:Nat):Obj:=WF (qR (fd n false)).toArray 4
theorem Tc(n:Nat)(hn:n<=4096)(w:YB):
  (Instr.makeSlice 147 n n).run prog w=.ok (U3 (lc w.heap.size) n n) (w.alloc (fY n)):=by
 obtain⟨i0,hi,lz,jK,kl⟩:=info_parts NG;rw[(run_make (P:=prog) w 147 152 i0 ru underlying147 hi lz By By n n (by omega) (ki _) (by rw[kl];omega) (by omega)),jK];simp only[iJ,zJ];rfl
theorem NH(n:Nat)(hn:n<=4096)(w:YB):
  (Instr.makeSlice 65 n n).run prog w=.ok (U3 (lc w.heap.size) n n) (w.alloc (mM n)):=by
 obtain⟨i0,hi,lz,jK,kl⟩:=info_parts Tb;rw[(run_make (P:=prog) w 65 4 i0 (U6 false) underlying65 hi lz By By n n (by omega) (ki _) (by rw[kl];omega) (by omega)),jK];have e:madeCells (Value.bool false).cells (((n:Int).toNat)*1)=(qR (fd n false)).toArray:=by
  show madeCells #[Value.bool false] (n*1)=_;rw[Nat.mul_one,iW];simp[qR]
 rw[e];rfl
theorem four(w:YB)(a b c d:Obj):((((w.alloc a).alloc b).alloc c).alloc d).heap[w.heap.size]?=some a/\((((w.alloc a).alloc b).alloc c).alloc d).heap[w.heap.size+1]?=some b/\((((w.alloc a).alloc b).alloc c).alloc d).heap[w.heap.size+1+1]?=some c/\((((w.alloc a).alloc b).alloc c).alloc d).heap[w.heap.size+1+1+1]?=some d:=by
 have s1:(w.alloc a).heap.size=w.heap.size+1:=by simp
 have s2:((w.alloc a).alloc b).heap.size=w.heap.size+1+1:=by simp
 have s3:(((w.alloc a).alloc b).alloc c).heap.size=w.heap.size+1+1+1:=by simp
 have e2:=heap_alloc_new (w.alloc a) b;have e3:=heap_alloc_new ((w.alloc a).alloc b) c;have e4:=heap_alloc_new (((w.alloc a).alloc b).alloc c) d;rw[s1]at e2;rw[s2]at e3;rw[s3]at e4;exact⟨(Below.heap_alloc _ d _ (by omega)).trans ((Below.heap_alloc _ c _ (by omega)).trans ((Below.heap_alloc _ b _ (by omega)).trans (heap_alloc_new w a))),(Below.heap_alloc _ d _ (by omega)).trans ((Below.heap_alloc _ c _ (by omega)).trans e2),(Below.heap_alloc _ d _ (by omega)).trans e3,e4⟩
theorem xD(w:YB)(a b c d:Obj):i7 w ((((w.alloc a).alloc b).alloc c).alloc d).drew:=
 (((((Below.refl _ _).alloc (ai _) _).alloc (by simp) _).alloc (by simp;omega) _).alloc (by simp;omega) _).drew
theorem qx(n:Nat)(hn:n<=4096):(D.zero n).Ok n:=⟨by simp[D.zero],by simp[D.zero],by simp[D.zero],hn,ki 0,ki 0⟩
theorem Hk(n:Nat)(w:YB)(h1:1<=n)(hn:n<=4096):
  eq prog 52 #[n] w λe w'=> ∃L,e=BY (U8 #[dp L.b,U5 By 0])/\bf w' L n (D.zero n)/\i7 w w'/\(∀x∈L.fp,w.heap.size<=x):=by
 have m1:=Tc n hn;have m2:=NH n hn;go_in
 go_wp2
 go_region
 all_goals go_wp2
 all_goals go_ret2
 all_goals first|exact⟨⟨w.heap.size+1+1+1,w.heap.size,w.heap.size+1,w.heap.size+1+1⟩,rfl,⟨.of_eq (four w (fY n) (fY n) (mM n) (WF (fields ⟨w.heap.size+1+1+1,w.heap.size,w.heap.size+1,w.heap.size+1+1⟩ n (D.zero n)) 149)).2.2.2,.of_eq (four w (fY n) (fY n) (mM n) (WF (fields ⟨w.heap.size+1+1+1,w.heap.size,w.heap.size+1,w.heap.size+1+1⟩ n (D.zero n)) 149)).1,.of_eq (four w (fY n) (fY n) (mM n) (WF (fields ⟨w.heap.size+1+1+1,w.heap.size,w.heap.size+1,w.heap.size+1+1⟩ n (D.zero n)) 149)).2.1,.of_eq (four w (fY n) (fY n) (mM n) (WF (fields ⟨w.heap.size+1+1+1,w.heap.size,w.heap.size+1,w.heap.size+1+1⟩ n (D.zero n)) 149)).2.2.1,by dsimp only;omega,qx n hn⟩,xD w _ _ _ _,by simp[Loc.fp];omega⟩|exact⟨⟨w.heap.size+1+1+1,w.heap.size,w.heap.size+1+1,w.heap.size+1⟩,rfl,⟨.of_eq (four w (fY n) (mM n) (fY n) (WF (fields ⟨w.heap.size+1+1+1,w.heap.size,w.heap.size+1+1,w.heap.size+1⟩ n (D.zero n)) 149)).2.2.2,.of_eq (four w (fY n) (mM n) (fY n) (WF (fields ⟨w.heap.size+1+1+1,w.heap.size,w.heap.size+1+1,w.heap.size+1⟩ n (D.zero n)) 149)).1,.of_eq (four w (fY n) (mM n) (fY n) (WF (fields ⟨w.heap.size+1+1+1,w.heap.size,w.heap.size+1+1,w.heap.size+1⟩ n (D.zero n)) 149)).2.2.1,.of_eq (four w (fY n) (mM n) (fY n) (WF (fields ⟨w.heap.size+1+1+1,w.heap.size,w.heap.size+1+1,w.heap.size+1⟩ n (D.zero n)) 149)).2.1,by dsimp only;omega,qx n hn⟩,xD w _ _ _ _,by simp[Loc.fp];omega⟩|exact⟨⟨w.heap.size+1+1+1,w.heap.size+1,w.heap.size,w.heap.size+1+1⟩,rfl,⟨.of_eq (four w (fY n) (fY n) (mM n) (WF (fields ⟨w.heap.size+1+1+1,w.heap.size+1,w.heap.size,w.heap.size+1+1⟩ n (D.zero n)) 149)).2.2.2,.of_eq (four w (fY n) (fY n) (mM n) (WF (fields ⟨w.heap.size+1+1+1,w.heap.size+1,w.heap.size,w.heap.size+1+1⟩ n (D.zero n)) 149)).2.1,.of_eq (four w (fY n) (fY n) (mM n) (WF (fields ⟨w.heap.size+1+1+1,w.heap.size+1,w.heap.size,w.heap.size+1+1⟩ n (D.zero n)) 149)).1,.of_eq (four w (fY n) (fY n) (mM n) (WF (fields ⟨w.heap.size+1+1+1,w.heap.size+1,w.heap.size,w.heap.size+1+1⟩ n (D.zero n)) 149)).2.2.1,by dsimp only;omega,qx n hn⟩,xD w _ _ _ _,by simp[Loc.fp];omega⟩|exact⟨⟨w.heap.size+1+1+1,w.heap.size+1,w.heap.size+1+1,w.heap.size⟩,rfl,⟨.of_eq (four w (mM n) (fY n) (fY n) (WF (fields ⟨w.heap.size+1+1+1,w.heap.size+1,w.heap.size+1+1,w.heap.size⟩ n (D.zero n)) 149)).2.2.2,.of_eq (four w (mM n) (fY n) (fY n) (WF (fields ⟨w.heap.size+1+1+1,w.heap.size+1,w.heap.size+1+1,w.heap.size⟩ n (D.zero n)) 149)).2.1,.of_eq (four w (mM n) (fY n) (fY n) (WF (fields ⟨w.heap.size+1+1+1,w.heap.size+1,w.heap.size+1+1,w.heap.size⟩ n (D.zero n)) 149)).2.2.1,.of_eq (four w (mM n) (fY n) (fY n) (WF (fields ⟨w.heap.size+1+1+1,w.heap.size+1,w.heap.size+1+1,w.heap.size⟩ n (D.zero n)) 149)).1,by dsimp only;omega,qx n hn⟩,xD w _ _ _ _,by simp[Loc.fp];omega⟩|exact⟨⟨w.heap.size+1+1+1,w.heap.size+1+1,w.heap.size,w.heap.size+1⟩,rfl,⟨.of_eq (four w (fY n) (mM n) (fY n) (WF (fields ⟨w.heap.size+1+1+1,w.heap.size+1+1,w.heap.size,w.heap.size+1⟩ n (D.zero n)) 149)).2.2.2,.of_eq (four w (fY n) (mM n) (fY n) (WF (fields ⟨w.heap.size+1+1+1,w.heap.size+1+1,w.heap.size,w.heap.size+1⟩ n (D.zero n)) 149)).2.2.1,.of_eq (four w (fY n) (mM n) (fY n) (WF (fields ⟨w.heap.size+1+1+1,w.heap.size+1+1,w.heap.size,w.heap.size+1⟩ n (D.zero n)) 149)).1,.of_eq (four w (fY n) (mM n) (fY n) (WF (fields ⟨w.heap.size+1+1+1,w.heap.size+1+1,w.heap.size,w.heap.size+1⟩ n (D.zero n)) 149)).2.1,by dsimp only;omega,qx n hn⟩,xD w _ _ _ _,by simp[Loc.fp];omega⟩|exact⟨⟨w.heap.size+1+1+1,w.heap.size+1+1,w.heap.size+1,w.heap.size⟩,rfl,⟨.of_eq (four w (mM n) (fY n) (fY n) (WF (fields ⟨w.heap.size+1+1+1,w.heap.size+1+1,w.heap.size+1,w.heap.size⟩ n (D.zero n)) 149)).2.2.2,.of_eq (four w (mM n) (fY n) (fY n) (WF (fields ⟨w.heap.size+1+1+1,w.heap.size+1+1,w.heap.size+1,w.heap.size⟩ n (D.zero n)) 149)).2.2.1,.of_eq (four w (mM n) (fY n) (fY n) (WF (fields ⟨w.heap.size+1+1+1,w.heap.size+1+1,w.heap.size+1,w.heap.size⟩ n (D.zero n)) 149)).2.1,.of_eq (four w (mM n) (fY n) (fY n) (WF (fields ⟨w.heap.size+1+1+1,w.heap.size+1+1,w.heap.size+1,w.heap.size⟩ n (D.zero n)) 149)).1,by dsimp only;omega,qx n hn⟩,xD w _ _ _ _,by simp[Loc.fp];omega⟩
structure Cr where
 A:Option Addr
 m:Nat
 c:Nat
 kp:Nat->Bool
 torn:Int
 bytes:Int
def Cr.At(C:Cr)(w:YB):Prop:= ∀i,i<C.m->∃ad,C.A=some ad/\w.cell? (ad.add i)=some (U6 (C.kp i))
theorem Cr.At.only{C:Cr}{S:List Nat}{w w':YB}(h:C.At w)(ho:ag S w w')(hap:∀ad,C.A=some ad->0<C.m->ad.block∉S):C.At w':=by
 intro i hi;obtain⟨ad,e,hc⟩:=h i hi;exact⟨ad,e,(ho.cell (by rw[m9];exact QR hc) (by rw[m9];exact hap ad e (by omega))).trans hc⟩
end Dk
end Go.Proofs.YtmonobkginiajaaGreat
