/- packed. -/
import Derived.IntWalk
import Derived.Deep.Slices
import Derived.Deep.Grids
import Derived.Lib.SmallJoins
import Derived.Test.YtmonobkginiajaaGreatB6
set_option linter.all false
set_option maxRecDepth 100000
set_option maxHeartbeats 8000000
namespace Go.Proofs.YtmonobkginiajaaGreat
open Go.Proofs.Tryz
namespace Sh
open Go.RowKit Pk Dk Pg
attribute [local go_sem ↓] Go.wp_at_zero Go.wp_at_succ
variable{w w':World}{b n K g:Nat}{F:List Nat}{c:Int}{a:ByteArray}{I:Ix}
def ik(n:Int):Int:=max ((max n 0+227) / 228) 1
def qc(n:Nat):List UInt8:=[UInt8.ofNat (n / 256),UInt8.ofNat n]
def dZ(v:List UInt8)(i:Nat):List UInt8:=(v.drop (228*i)).take 228
theorem CM(n:Int)(h:n<=1000000)(w:World):
  Calls prog 172 #[.int .i64 n] w λe w'=>e=.returned (.int .i64 (ik n))/\w=w':=by
 unfold ik;obtain⟨m,hm⟩:=eT (show 0<=max n 0 by omega);rw[hm];have Kc:m<=1000000:=by omega
 have e1:IntKind.i64.wrap ((m:Int)+228)=(m:Int)+228:=IntWalk.i64_in _ (by omega);have e2:IntKind.i64.wrap ((m:Int)+228-1)=(m:Int)+227:=by rw[show(m:Int)+228-1=(m:Int)+227 by omega];exact IntWalk.i64_in _ (by omega)
 have e3:IntKind.i64.wrap (((m:Int)+227).tdiv 228)=((m:Int)+227) / 228:=by rw[Jz (by omega)];exact IntWalk.i64_in _ (by omega)
 have e4:IntKind.i64.wrap ((m:Int)+227)=(m:Int)+227:=IntWalk.i64_in _ (by omega);go_enter func172,ntmps172;go_wp2_with fail
 all_goals
  go_ret;refine⟨?_,rfl⟩
  first|(simp;done)|(simp;omega)
theorem eZ(n:Nat)(h:n<=60000)(w:World):
  Calls prog 173 #[.int .i64 (n:Nat)] w λe w'=>e=.returned (.string ⟨(qc n).toArray⟩)/\Below w.heap.size w w':=by
 have O0:=xh (ae (Below.refl w.heap.size w) (.cells #[.int .u8 ((n:Int) / 256),.int .u8 ((n:Int) % 256)] 5));have B0:=aJ.new w 5 #[.int .u8 ((n:Int) / 256),.int .u8 ((n:Int) % 256)];have e1:IntKind.u8.wrap ((n:Int) / 256)=(n:Int) / 256:=IntWalk.u8_in _ (by omega);have hb:dI (qc n)=[.int .u8 ((n:Int) / 256),.int .u8 ((n:Int) % 256)]:=by
  unfold qc dI bv;simp only[fN,qI,je];rw[show((n / 256 % 2 ^ 8:Nat):Int)=(n:Int) / 256 by omega,show((n % 2 ^ 8:Nat):Int)=(n:Int) % 256 by omega]
 have HR:=xh (cg (P:=prog) _ 150 9 5 underlying150 underlying5 underlying9 ⟨w.heap.size,0,none⟩ 2 2 (qc n) rfl (bq (l:=dI (qc n)) (by rw[hb];exact B0) 0 _ (by simp)));clear B0 hb;go_enter func173,ntmps173;go_wp2_with fail;rw[HR.o];go_wp2_with fail;go_ret;exact aE O0.o
theorem Qq{q:Nat}(v:ByteArray)(hv:v.size<=1024)(hq:w.cell? ⟨q,0,none⟩=some (.string v))(i:Nat)(hi:228*i<=v.size):
  Calls prog 171 #[.int .i64 (i:Nat),.pointer (some ⟨q,0,none⟩)] w λe w'=>e=.returned (.string ⟨(dZ v.data.toList i).toArray⟩)/\w=w':=by
 have e1:IntKind.i64.wrap ((i:Int)*228)=((228*i:Nat):Int):=by rw[show(i:Int)*228=((228*i:Nat):Int) by omega];exact IntWalk.i64_in _ (by omega)
 have e2:IntKind.i64.wrap ((i:Int)+1)=(i:Int)+1:=IntWalk.i64_in _ (by omega);have e3:IntKind.i64.wrap (((i:Int)+1)*228)=((228*i+228:Nat):Int):=by rw[show((i:Int)+1)*228=((228*i+228:Nat):Int) by omega];exact IntWalk.i64_in _ (by omega)
 have HP:=xh (show ∀b:Nat,(228*i+228<=v.size->b=228*i+228)->(v.size<228*i+228->b=v.size)->v.extract (228*i) b=⟨(dZ v.data.toList i).toArray⟩from λb h1 h2=>by
  apply mr;apply rP.1;show(v.extract (228*i) b).data.toList=dZ v.data.toList i;rw[exl'];unfold dZ
  rcases eR v.size (228*i+228)with h|h
  .rw[h2 h,cy (by simp),cy (by simp;omega)]
  .rw[h1 h,show 228*i+228-228*i=228 by omega])
 go_enter func171,ntmps171;go_wp2_with fail
 all_goals
  go_ret;exact⟨by rw[HP.o _ (by omega) (by omega)];rfl,rfl⟩
def bS(l:List UInt8)(k:Nat):Nat:=(l.getD k 0).toNat*256+(l.getD (k+1) 0).toNat
theorem or8(a b:Nat)(ha:a<256)(hb:b<256):bits .or .i64 ((a:Int)*256) (b:Int)=((a*256+b:Nat):Int):=by
 rw[bits_join .i64 32 (by decide) (λn h0 h1=>IntWalk.i64_in n (by omega)) 8 _ _ (by omega) (by omega) (by omega) (by omega) (by omega) (by omega)];omega
theorem dL(s:ByteArray)(k:Nat)(h:k<s.size):s.data.toList.getD k 0=s[k]:=by
 have h2:k<s.data.toList.length:=by simpa using h
 simp only[List.getD,aL h2,jc,Array.getElem_toList];rfl
theorem l8(o:ag (b::F) w w')(hb:w.heap.size<=b):ag F w w':=o.mono (λx hx dH=>(an.1 hx).elim (λe=>by omega) id)
theorem l9(o:ag F w w'):ag (b::F) w w':=o.mono (λ_ hx _=>ax _ hx)
theorem ma(o:ag [b] w w'):ag (b::F) w w':=o.mono (λ_ hx _=>by rw[aQ.1 hx];exact fY ..)
def QS.fq(q:QS)(l:Int):QS×Int×List UInt8×Int:=
 if(q.dK l).2.2≠0 then((q.dK l).1,0,[],(q.dK l).2.2)else if 228<bS (q.dK l).2.1.data.toList 2 then((q.dK l).1,0,[],14)else((q.dK l).1,(bS (q.dK l).2.1.data.toList 0:Int)-1,((q.dK l).2.1.data.toList.drop 4).take (bS (q.dK l).2.1.data.toList 2),0)
theorem zN{q:QS}(h:Wp q n K){p:Int}(h0:(q.dK p).2.2=0):(q.dK p).2.1.size=232:=by
 rcases(h.get p).2 with⟨h1,h2⟩|⟨h1,h2⟩|⟨h1,h2⟩
 .rw[h2];show(q.vw p).1.toArray.size=232;simpa using h.len h1
 .rw[h2]at h0;exact absurd h0 (by decide)
 .rw[h2]at h0;exact absurd h0 (by decide)
def zO(n:Int)(s:ByteArray):Value:= .agg #[.int .i64 n,.string s]
theorem zP{fn:Func}{p u:Tmp}{tmps:Array Value}(h:fn.results= #[.cell p 262,.tmp u])(hp:tmps.getD p undef=.pointer (some ⟨g,0,none⟩))(B:aJ w g 262 #[.int .i64 c,.string a]):
  (results fn tmps).run prog w=.ok (.tuple #[zO c a,tmps.getD u undef]) w:=by
 have c0:=B.ab (i:=0) rfl;have c1:=B.ab (i:=1) rfl;rw[results_cell_tmp h,hp];clear h hp B;unfold zO;go_simp
theorem LR{c':Int}{a':ByteArray}(B:aJ w g 262 #[.int .i64 c,.string a]):
  aJ ((w.setCell ⟨g,0,none⟩ (.int .i64 c')).setCell ⟨g,1,none⟩ (.string a')) g 262 #[.int .i64 c',.string a']/\ag [g] w ((w.setCell ⟨g,0,none⟩ (.int .i64 c')).setCell ⟨g,1,none⟩ (.string a'))/\
   w.cell? ⟨g,0,none⟩=some (.int .i64 c)/\w.cell? ⟨g,1,none⟩=some (.string a)/\w.frozen? ⟨g,0,none⟩=false/\w.frozen? ⟨g,1,none⟩=false:=
 ⟨(B.bE 0 _).bE 1 _,((ag.refl _ _).setCell (by simp) _).setCell (by simp) _,B.ab rfl,B.ab rfl,B.frozen 0 (by simp),B.frozen 1 (by simp)⟩
theorem Qr{q:QS}(h:PQ w I F q n K)(hK:K<=999999999999)(p:Int)(he:(q.dK p).2.2≠0):
  Calls prog 204 #[pp I.pb,.int .i64 p] w λe w'=>e=.returned (.tuple #[zO 0 ⟨#[]⟩,.int .i64 (q.dK p).2.2])/\PQ w' I F (q.dK p).1 n (K+1)/\ag F w w':=by
 have O0:=xh (ae (Below.refl w.heap.size w) (.cells #[.int .i64 0,.string ⟨#[]⟩] 262));have B0:=xh (aJ.new w 262 #[.int .i64 0,.string ⟨#[]⟩]);have NQ:=xh (show w.heap.size∉F from λhm=>by have:=h.lt _ hm;omega);have KG:=xh (uy (h.below O0.o) hK p);have hq:((q.dK p).2.2 != 0)=true:=by rw[bne_iff_ne];exact he
 have kt:((q.dK p).2.2==0)=false:=by rw[beq_eq_false_iff_ne];exact he
 generalize q.dK p=R at *;obtain⟨q1,R1,R2⟩:=R;dsimp only at *;clear h he;unfold pp at *;go_enter func204,ntmps204;go_wp2_with fail;refine KG.o.mono ?_;rintro e w1 ⟨rfl,A1,o1⟩;have A1:=xh A1;have o1:=xh o1;obtain⟨B2,o2,c0,c1,z0,z1⟩:=LR (c':=0) (a':=⟨#[]⟩) (B0.o.only o1.o NQ.o);have B2:=xh B2;have o2:=xh o2;go_wp2_with fail
 exact bodyPost_ret (zP rfl rfl B2.o) rfl ⟨rfl,(A1.o).aW o2.o NQ.o,l8 (((ag.aj (S:=w.heap.size::F) O0.o).trans (l9 o1.o)).trans (ma o2.o)) (ak _)⟩
theorem LS{q:QS}(h:PQ w I F q n K)(hK:K<=999999999999)(p:Int)(he:(q.dK p).2.2=0)(H2:228<bS (q.dK p).2.1.data.toList 2):
  Calls prog 204 #[pp I.pb,.int .i64 p] w λe w'=>e=.returned (.tuple #[zO 0 ⟨#[]⟩,.int .i64 14])/\PQ w' I F (q.dK p).1 n (K+1)/\ag F w w':=by
 have O0:=xh (ae (Below.refl w.heap.size w) (.cells #[.int .i64 0,.string ⟨#[]⟩] 262));have B0:=xh (aJ.new w 262 #[.int .i64 0,.string ⟨#[]⟩]);have NQ:=xh (show w.heap.size∉F from λhm=>by have:=h.lt _ hm;omega);have KG:=xh (uy (h.below O0.o) hK p);have pF:=zN h.wp he;rw[he]at KG;generalize q.dK p=R at *;obtain⟨q1,s,R2⟩:=R;dsimp only at *;have b0:=s[0].toNat_lt;have b1:=s[1].toNat_lt;have b2:=s[2].toNat_lt;have b3:=s[3].toNat_lt
 have V0:=xh (show bits .or .i64 ((s[0].toNat:Int)*256) (s[1].toNat:Int)=((bS s.data.toList 0:Nat):Int)from by
  rw[or8 _ _ (by omega) (by omega)];unfold bS;rw[dL _ _ (by omega),dL _ _ (by omega)])
 have V2:=xh (show bits .or .i64 ((s[2].toNat:Int)*256) (s[3].toNat:Int)=((bS s.data.toList 2:Nat):Int)from by
  rw[or8 _ _ (by omega) (by omega)];unfold bS;rw[dL _ _ (by omega),dL _ _ (by omega)])
 have m0:bS s.data.toList 0<=65535:=by unfold bS;rw[dL _ _ (by omega),dL _ _ (by omega)];simp only[bg];omega
 have u0:IntKind.i64.wrap (s[0].toNat:Int)=(s[0].toNat:Int):=IntWalk.i64_in _ (by omega);have u1:IntKind.i64.wrap (s[1].toNat:Int)=(s[1].toNat:Int):=IntWalk.i64_in _ (by omega);have u2:IntKind.i64.wrap (s[2].toNat:Int)=(s[2].toNat:Int):=IntWalk.i64_in _ (by omega);have u3:IntKind.i64.wrap (s[3].toNat:Int)=(s[3].toNat:Int):=IntWalk.i64_in _ (by omega);have u4:IntKind.i64.wrap ((s[0].toNat:Int)*256)=(s[0].toNat:Int)*256:=IntWalk.i64_in _ (by omega)
 have u5:IntKind.i64.wrap ((s[2].toNat:Int)*256)=(s[2].toNat:Int)*256:=IntWalk.i64_in _ (by omega);generalize bS s.data.toList 2=m2 at *;generalize bS s.data.toList 0=m1 at *;clear h he;unfold pp at *;go_enter func204,ntmps204;go_wp2_with fail;refine KG.o.mono ?_;rintro e w1 ⟨rfl,A1,o1⟩;have A1:=xh A1;have o1:=xh o1;go_wp2_with fail;go_quiet (fail);rw[V0.o,V2.o];obtain⟨B2,o2,c0,c1,z0,z1⟩:=LR (c':=0) (a':=⟨#[]⟩) ((B0.o.only o1.o NQ.o).drewN nq)
 have B2:=xh B2;have o2:=xh (((ag.refl [w.heap.size] w1).drewN nq).trans o2);go_wp2_with fail;exact bodyPost_ret (zP rfl rfl B2.o) rfl ⟨rfl,(A1.o).aW o2.o NQ.o,l8 (((ag.aj (S:=w.heap.size::F) O0.o).trans (l9 o1.o)).trans (ma o2.o)) (ak _)⟩
theorem Uv{q:QS}(h:PQ w I F q n K)(hK:K<=999999999999)(p:Int)(he:(q.dK p).2.2=0)(H2:bS (q.dK p).2.1.data.toList 2<=228):
  Calls prog 204 #[pp I.pb,.int .i64 p] w λe w'=>e=.returned (.tuple #[zO ((bS (q.dK p).2.1.data.toList 0:Int)-1) ⟨(((q.dK p).2.1.data.toList.drop 4).take (bS (q.dK p).2.1.data.toList 2)).toArray⟩,.int .i64 0])/\PQ w' I F (q.dK p).1 n (K+1)/\ag F w w':=by
 have O0:=xh (ae (Below.refl w.heap.size w) (.cells #[.int .i64 0,.string ⟨#[]⟩] 262));have B0:=xh (aJ.new w 262 #[.int .i64 0,.string ⟨#[]⟩]);have NQ:=xh (show w.heap.size∉F from λhm=>by have:=h.lt _ hm;omega);have KG:=xh (uy (h.below O0.o) hK p);have pF:=zN h.wp he;rw[he]at KG;generalize q.dK p=R at *;obtain⟨q1,s,R2⟩:=R;dsimp only at *;have b0:=s[0].toNat_lt;have b1:=s[1].toNat_lt;have b2:=s[2].toNat_lt;have b3:=s[3].toNat_lt
 have V0:=xh (show bits .or .i64 ((s[0].toNat:Int)*256) (s[1].toNat:Int)=((bS s.data.toList 0:Nat):Int)from by
  rw[or8 _ _ (by omega) (by omega)];unfold bS;rw[dL _ _ (by omega),dL _ _ (by omega)])
 have V2:=xh (show bits .or .i64 ((s[2].toNat:Int)*256) (s[3].toNat:Int)=((bS s.data.toList 2:Nat):Int)from by
  rw[or8 _ _ (by omega) (by omega)];unfold bS;rw[dL _ _ (by omega),dL _ _ (by omega)])
 have m0:bS s.data.toList 0<=65535:=by unfold bS;rw[dL _ _ (by omega),dL _ _ (by omega)];simp only[bg];omega
 have u0:IntKind.i64.wrap (s[0].toNat:Int)=(s[0].toNat:Int):=IntWalk.i64_in _ (by omega);have u1:IntKind.i64.wrap (s[1].toNat:Int)=(s[1].toNat:Int):=IntWalk.i64_in _ (by omega);have u2:IntKind.i64.wrap (s[2].toNat:Int)=(s[2].toNat:Int):=IntWalk.i64_in _ (by omega);have u3:IntKind.i64.wrap (s[3].toNat:Int)=(s[3].toNat:Int):=IntWalk.i64_in _ (by omega);have u4:IntKind.i64.wrap ((s[0].toNat:Int)*256)=(s[0].toNat:Int)*256:=IntWalk.i64_in _ (by omega)
 have u5:IntKind.i64.wrap ((s[2].toNat:Int)*256)=(s[2].toNat:Int)*256:=IntWalk.i64_in _ (by omega);have HX:=xh (show s.extract 4 (4+bS s.data.toList 2)=⟨((s.data.toList.drop 4).take (bS s.data.toList 2)).toArray⟩from by
  apply mr;apply rP.1;show(s.extract 4 (4+bS s.data.toList 2)).data.toList=(s.data.toList.drop 4).take (bS s.data.toList 2);rw[exl',show 4+bS s.data.toList 2-4=bS s.data.toList 2 by omega])
 generalize (⟨((s.data.toList.drop 4).take (bS s.data.toList 2)).toArray⟩:ByteArray)=P at *;generalize bS s.data.toList 2=m2 at *;generalize bS s.data.toList 0=m1 at *;have u6:IntKind.i64.wrap ((m1:Int)-1)=(m1:Int)-1:=IntWalk.i64_in _ (by omega);have u7:IntKind.i64.wrap (4+(m2:Int))=4+(m2:Int):=IntWalk.i64_in _ (by omega);have u8:(4+(m2:Int)).toNat=4+m2:=by omega
 clear h he;unfold pp at *;go_enter func204,ntmps204;go_wp2_with fail;refine KG.o.mono ?_;rintro e w1 ⟨rfl,A1,o1⟩;have A1:=xh A1;have o1:=xh o1;go_wp2_with fail;go_quiet (fail);rw[V0.o,V2.o];obtain⟨B2,o2,c0,c1,z0,z1⟩:=LR (c':=(m1:Int)-1) (a':=s.extract 4 (4+m2)) ((B0.o.only o1.o NQ.o).drewN nq);have B2:=xh B2;have o2:=xh (((ag.refl [w.heap.size] w1).drewN nq).trans o2);go_wp2_with fail
 exact bodyPost_ret (zP rfl rfl B2.o) rfl ⟨by rw[HX.o];rfl,(A1.o).aW o2.o NQ.o,l8 (((ag.aj (S:=w.heap.size::F) O0.o).trans (l9 o1.o)).trans (ma o2.o)) (ak _)⟩
theorem Qs{q:QS}(h:PQ w I F q n K)(hK:K<=999999999999)(p:Int):
  Calls prog 204 #[pp I.pb,.int .i64 p] w λe w'=>e=.returned (.tuple #[zO (q.fq p).2.1 ⟨(q.fq p).2.2.1.toArray⟩,.int .i64 (q.fq p).2.2.2])/\PQ w' I F (q.fq p).1 n (K+1)/\ag F w w':=by
 unfold QS.fq
 by_cases h0:(q.dK p).2.2=0
 .rw[if_neg (by simpa using h0)]
  by_cases h1:228<bS (q.dK p).2.1.data.toList 2
  .rw[if_pos h1];exact LS h hK p h0 h1
  .rw[if_neg h1];exact Uv h hK p h0 (by omega)
 .rw[if_pos h0];exact Qr h hK p h0
attribute [local go_sem ↓] bz vu
variable{w:World}{e:TypeId}{z n:Nat}{v:Value}{l:List Value}
def QS.py:Nat->QS->Int->List Int->List UInt8->QS×List Int×List UInt8×Int
 |0,q,_,_,_=>(q,[],[],14)
 |m+1,q,at_,l,b=>
  if(q.fq at_).2.2.2=3/\0<l.length then((q.fq at_).1,[],[],14)
  else if(q.fq at_).2.2.2≠0 then((q.fq at_).1,[],[],(q.fq at_).2.2.2)
  else if 1024<(b++(q.fq at_).2.2.1).length then((q.fq at_).1,[],[],14)
  else if(q.fq at_).2.1<0 then((q.fq at_).1,l++[at_],b++(q.fq at_).2.2.1,0)
  else QS.py m (q.fq at_).1 (q.fq at_).2.1 (l++[at_]) (b++(q.fq at_).2.2.1)
def QS.eQ(q:QS)(first:Int):QS×List Int×List UInt8×Int:=q.py 5 first [] []
theorem Uw(q:QS)(l:Int):(q.fq l).2.1<=65534/\ -1<=(q.fq l).2.1/\(q.fq l).2.2.1.length<=228:=by
 unfold QS.fq
 split
 .exact⟨by show(0:Int)<=_;omega,by show(-1:Int)<=0;omega,by show 0<=228;omega⟩
 .split
  .exact⟨by show(0:Int)<=_;omega,by show(-1:Int)<=0;omega,by show 0<=228;omega⟩
  .refine⟨?_,?_,?_⟩
   .show(bS _ 0:Int)-1<=_;unfold bS;have:=(List.getD (q.dK l).2.1.data.toList 0 0).toNat_lt;have:=(List.getD (q.dK l).2.1.data.toList (0+1) 0).toNat_lt;omega
   .show -1<=(bS _ 0:Int)-1;omega
   .rw[bm];omega
theorem yB(h:aT w e z v n l):∀g∈ai v,∃cs,aJ w g e cs:=by
 rcases h.2 with⟨rfl,_⟩|⟨g,cap,rest,rfl,B,_⟩
 .simp[ai]
 .intro x hx;simp only[ai,aQ]at hx;exact⟨_,by rw[hx];exact B⟩
theorem ig{t:TypeId}{y m:Nat}{u:Value}{k:List Value}(h:aT w e z v n l)(h':aT w t y u m k)(ff:e≠t):∀g∈ai v,g∉ai u:=λg hg hu=>by
 obtain⟨cs,B⟩:=yB h g hg;exact cU h' B ff hu
theorem CO{I:Ix}{F:List Nat}{q:QS}{K:Nat}(h:PQ w I F q n K)(hK:K<=999999999900)(p:Int):
  Calls prog 160 #[pp I.pb,.int .i64 p] w λe w'=> ∃A m c,e=.returned (.tuple #[.slice A m c,.string ⟨(q.eQ p).2.2.1.toArray⟩,.int .i64 (q.eQ p).2.2.2])/\aT w' 3 1 (.slice A m c) (q.eQ p).2.1.length (dm (q.eQ p).2.1)/\PQ w' I F (q.eQ p).1 n (K+5)/\ag F w w'/\∀g∈ai (.slice A m c),w.heap.size<=g:=by
 have KN:=xh (CM 1024 (by omega));rw[show ik 1024=5 from rfl]at KN;have KR:=xh (λ(W:World) (qj:QS) (kj:Nat) (hW:PQ W I F qj n kj) (hk:kj<=999999999999) (y:Int)=>Qs hW hk y);have oO:=xh h.lt;obtain⟨R,hR⟩:∃R,q.eQ p=R:=⟨_,rfl⟩;rw[hR];have HQ:=xh h;unfold QS.eQ at hR;have HR:=xh hR;clear h hR;unfold zO at KR;unfold pp at *;go_enter func160,ntmps160;go_wp2_with fail;refine(KN.o _).mono ?_;rintro e w1 ⟨rfl,rfl⟩;go_wp2_with fail
 go_loopw [7,8,9,16] (λlv bv av iv wr=> ∃(i:Nat) (l:List Int) (b:List UInt8) (at_:Int) (qi:QS),i<=5/\l.length=i/\iv=.int .i64 i/\av=.int .i64 at_/\b.length<=1024/\aT wr 3 1 lv i (dm l)/\aT wr 5 1 bv b.length (dI b)/\Hid (qi.py (5-i) at_ l b=R)/\Hid (PQ wr I F qi n (K+i)/\ag F w wr/\(∀g∈ai lv,w.heap.size<=g)/\(∀g∈ai bv,w.heap.size<=g))) (λ_ _ _ iv _=>5-(intOf iv).toNat)
 case atStart=>exact⟨0,[],[],p,q,by omega,rfl,rfl,rfl,by simp,aT.nil _ _ _,aT.nil _ _ _,HR,xh ⟨HQ.o,ag.refl _ _,by simp[ai],by simp[ai]⟩⟩
 case round=>
  obtain⟨i,l,b,at_,qi,hi,hl,rfl,rfl,hb,S1,S2,HW,HA⟩:=hrel;obtain⟨VA,vc,rfl⟩:=au S1;obtain⟨VB,vb,rfl⟩:=au S2
  by_cases h5:i<5
  .have K1:=xh (KR.o wr qi (K+i) HA.o.1 (by omega) at_);obtain⟨bd1,bd2,bd3⟩:=Uw qi at_;have HW:=HW.o;rw[show 5-i=(5-(i+1))+1 by omega]at HW;unfold QS.py at HW;rw[hl]at HW;generalize qi.fq at_=r at *;obtain⟨qn,nx,pc,er⟩:=r;dsimp only at *
   by_cases he:er=0
   .subst he;rw[if_neg (by omega),if_neg (by simp)]at HW;have W2:=xh (show ∀w2,PQ w2 I F qn n (K+(i+1))->ag F wr w2->PQ (w2.alloc (.cells #[.int .i64 nx,.string ⟨pc.toArray⟩] 262)) I F qn n (K+(i+1))/\ag F w (w2.alloc (.cells #[.int .i64 nx,.string ⟨pc.toArray⟩] 262))/\
      aT (w2.alloc (.cells #[.int .i64 nx,.string ⟨pc.toArray⟩] 262)) 3 1 (.slice VA i vc) i (dm l)/\aT (w2.alloc (.cells #[.int .i64 nx,.string ⟨pc.toArray⟩] 262)) 5 1 (.slice VB b.length vb) b.length (dI b)/\aJ (w2.alloc (.cells #[.int .i64 nx,.string ⟨pc.toArray⟩] 262)) w2.heap.size 262 #[.int .i64 nx,.string ⟨pc.toArray⟩]/\w2.heap.size∉ai (.slice VA i vc)/\w2.heap.size∉ai (.slice VB b.length vb)from λw2 A2 o2=>by
     obtain⟨a1,a2,a3,a4⟩:=HA.o;have U:=ae (Below.refl w2.heap.size w2) (.cells #[.int .i64 nx,.string ⟨pc.toArray⟩] 262);have s1:=S1.only o2 (λg hg hF=>by have:=oO.o g hF;have:=a3 g hg;omega);have s2:=S2.only o2 (λg hg hF=>by have:=oO.o g hF;have:=a4 g hg;omega);exact⟨A2.below U,(a2.trans o2).trans (.aj U),s1.below U,s2.below U,aJ.new _ _ _,λhg=>by have:=s1.lt _ hg;omega,λhg=>by have:=s2.lt _ hg;omega⟩)
    by_cases hL:1024<(b++pc).length
    .rw[if_pos hL]at HW;subst HW;rw[aU]at hL;go_wp2_with fail;refine K1.o.mono ?_;rintro e w2 ⟨rfl,A2,o2⟩;obtain⟨A3,o3,s1,s2,LK,n1,n2⟩:=W2.o w2 A2 o2;obtain⟨v',w4,ea,S4,ow,fr⟩:=cQ (P:=prog) s1 60 60 (.int .i64 0) 8 underlying60 ji rfl (.int .i64 at_) rfl (by unfold maxLen;omega) (by omega);have s4:=s2.only ow (ig s2 s1 (by decide));have L4:=LK.only ow n1
     have A4:=A3.only ow (λg hF hg=>by have:=oO.o g hF;have:=HA.o.2.2.1 g hg;omega);obtain⟨u',w5,eb,S5,ov,fv⟩:=iM (P:=prog) s4 150 9 150 underlying150 underlying9 jy.eA ⟨pc.toArray⟩ (by show _+pc.toArray.size<=_;simp;omega);have S6:=S4.only ov (λg hg=>ig S4 s4 (by decide) g hg);have L6:=L4.only ov n2;have A6:=xh (A4.only ov (λg hF hg=>by have:=oO.o g hF;have:=HA.o.2.2.2 g hg;omega));have k1:=L4.ab (i:=1) rfl
     have k0:=L6.ab (i:=0) rfl;have O6:=xh (show ag F w w5 from((o3.aO ow (λg hg dH=>by have:=HA.o.2.2.1 g hg;omega)).aO ov (λg hg dH=>by have:=HA.o.2.2.2 g hg;omega)));have F4:=xh (show ∀g∈ai v',w.heap.size<=g from λg hg=>(fr g hg).elim (HA.o.2.2.1 g) (λh=>by have:=o3.size;omega));have F5:=xh (show ∀g∈ai u',w.heap.size<=g from λg hg=>(fv g hg).elim (HA.o.2.2.2 g) (λh=>by have:=o3.size;have:=ow.size;omega))
     obtain⟨V4,c4,rfl⟩:=au S4;rw[show(⟨pc.toArray⟩:ByteArray).size=pc.length from by show pc.toArray.size=_;simp,show(⟨pc.toArray⟩:ByteArray).data.toList=pc from rfl,<-cP]at S5;obtain⟨V5,c5,rfl⟩:=au S5;have SV:=xh (show aT w5 5 1 (.slice V5 (b.length+pc.length) c5) (b++pc).length (dI (b++pc))from by rw[aU];exact S5);have CV:=xh (yu (P:=prog) S5.drew 150 9 underlying150 underlying5 underlying9)
     rw[World.size_alloc]at ea;have EA:=xh ea;have EB:=xh eb;clear ea eb ow ov fr fv S4 s4 L4 A4 L6 LK A3 A2 o2 o3 s1 s2 n1 n2;go_wp2_with fail;rw[EA.o];go_wp2_with fail;rw[EB.o];go_wp2_with fail
     go_ret3
     exact⟨none,0,0,by first|rfl|simp,aT.nil _ _ _,A6.o.le (by omega),O6.o,by simp[ai]⟩
    .rw[if_neg hL]at HW;have hL2:b.length+pc.length<=1024:=by rw[aU]at hL;omega
     by_cases hn:nx<0
     .rw[if_pos hn]at HW;subst HW;go_wp2_with fail;refine K1.o.mono ?_;rintro e w2 ⟨rfl,A2,o2⟩;obtain⟨A3,o3,s1,s2,LK,n1,n2⟩:=W2.o w2 A2 o2;obtain⟨v',w4,ea,S4,ow,fr⟩:=cQ (P:=prog) s1 60 60 (.int .i64 0) 8 underlying60 ji rfl (.int .i64 at_) rfl (by unfold maxLen;omega) (by omega);have s4:=s2.only ow (ig s2 s1 (by decide));have L4:=LK.only ow n1;have A4:=A3.only ow (λg hF hg=>by have:=oO.o g hF;have:=HA.o.2.2.1 g hg;omega)
      obtain⟨u',w5,eb,S5,ov,fv⟩:=iM (P:=prog) s4 150 9 150 underlying150 underlying9 jy.eA ⟨pc.toArray⟩ (by show _+pc.toArray.size<=_;simp;omega);have S6:=S4.only ov (λg hg=>ig S4 s4 (by decide) g hg);have L6:=L4.only ov n2;have A6:=xh (A4.only ov (λg hF hg=>by have:=oO.o g hF;have:=HA.o.2.2.2 g hg;omega));have k1:=L4.ab (i:=1) rfl;have k0:=L6.ab (i:=0) rfl
      have O6:=xh (show ag F w w5 from((o3.aO ow (λg hg dH=>by have:=HA.o.2.2.1 g hg;omega)).aO ov (λg hg dH=>by have:=HA.o.2.2.2 g hg;omega)));have F4:=xh (show ∀g∈ai v',w.heap.size<=g from λg hg=>(fr g hg).elim (HA.o.2.2.1 g) (λh=>by have:=o3.size;omega));have F5:=xh (show ∀g∈ai u',w.heap.size<=g from λg hg=>(fv g hg).elim (HA.o.2.2.2 g) (λh=>by have:=o3.size;have:=ow.size;omega));obtain⟨V4,c4,rfl⟩:=au S4
      rw[show(⟨pc.toArray⟩:ByteArray).size=pc.length from by show pc.toArray.size=_;simp,show(⟨pc.toArray⟩:ByteArray).data.toList=pc from rfl,<-cP]at S5;obtain⟨V5,c5,rfl⟩:=au S5;have SV:=xh (show aT w5 5 1 (.slice V5 (b.length+pc.length) c5) (b++pc).length (dI (b++pc))from by rw[aU];exact S5);have CV:=xh (yu (P:=prog) S5.drew 150 9 underlying150 underlying5 underlying9);rw[World.size_alloc]at ea;have EA:=xh ea
      have EB:=xh eb;clear ea eb ow ov fr fv S4 s4 L4 A4 L6 LK A3 A2 o2 o3 s1 s2 n1 n2;go_wp2_with fail;rw[EA.o];go_wp2_with fail;rw[EB.o];go_wp2_with fail;have CV:=CV.o
      go_region
      go_wp2_with fail
      go_ret3
      exact⟨V4,i+1,c4,by first|rfl|simp,by rw[gi];first|exact S6.drew|(rw[aU,hl];exact S6.drew),(A6.o.below ((Below.refl _ _).drew)).le (by omega),O6.o.drew,F4.o⟩
     .rw[if_neg hn]at HW;have HW:=xh HW;go_wp2_with fail;refine K1.o.mono ?_;rintro e w2 ⟨rfl,A2,o2⟩;obtain⟨A3,o3,s1,s2,LK,n1,n2⟩:=W2.o w2 A2 o2;obtain⟨v',w4,ea,S4,ow,fr⟩:=cQ (P:=prog) s1 60 60 (.int .i64 0) 8 underlying60 ji rfl (.int .i64 at_) rfl (by unfold maxLen;omega) (by omega);have s4:=s2.only ow (ig s2 s1 (by decide));have L4:=LK.only ow n1;have A4:=A3.only ow (λg hF hg=>by have:=oO.o g hF;have:=HA.o.2.2.1 g hg;omega)
      obtain⟨u',w5,eb,S5,ov,fv⟩:=iM (P:=prog) s4 150 9 150 underlying150 underlying9 jy.eA ⟨pc.toArray⟩ (by show _+pc.toArray.size<=_;simp;omega);have S6:=S4.only ov (λg hg=>ig S4 s4 (by decide) g hg);have L6:=L4.only ov n2;have A6:=xh (A4.only ov (λg hF hg=>by have:=oO.o g hF;have:=HA.o.2.2.2 g hg;omega));have k1:=L4.ab (i:=1) rfl;have k0:=L6.ab (i:=0) rfl
      have O6:=xh (show ag F w w5 from((o3.aO ow (λg hg dH=>by have:=HA.o.2.2.1 g hg;omega)).aO ov (λg hg dH=>by have:=HA.o.2.2.2 g hg;omega)));have F4:=xh (show ∀g∈ai v',w.heap.size<=g from λg hg=>(fr g hg).elim (HA.o.2.2.1 g) (λh=>by have:=o3.size;omega));have F5:=xh (show ∀g∈ai u',w.heap.size<=g from λg hg=>(fv g hg).elim (HA.o.2.2.2 g) (λh=>by have:=o3.size;have:=ow.size;omega));obtain⟨V4,c4,rfl⟩:=au S4
      rw[show(⟨pc.toArray⟩:ByteArray).size=pc.length from by show pc.toArray.size=_;simp,show(⟨pc.toArray⟩:ByteArray).data.toList=pc from rfl,<-cP]at S5;obtain⟨V5,c5,rfl⟩:=au S5;have SV:=xh (show aT w5 5 1 (.slice V5 (b.length+pc.length) c5) (b++pc).length (dI (b++pc))from by rw[aU];exact S5);have CV:=xh (yu (P:=prog) S5.drew 150 9 underlying150 underlying5 underlying9);rw[World.size_alloc]at ea;have EA:=xh ea
      have EB:=xh eb;clear ea eb ow ov fr fv S4 s4 L4 A4 L6 LK A3 A2 o2 o3 s1 s2 n1 n2;go_wp2_with fail;rw[EA.o];go_wp2_with fail;rw[EB.o];go_wp2_with fail;go_roundw
      case rel=>exact⟨i+1,l++[at_],b++pc,nx,qn,by omega,by simp[hl],by go_num,rfl,by rw[aU];exact hL2,by rw[gi];exact S6,SV.o,HW,xh ⟨A6.o,O6.o,F4.o,F5.o⟩⟩
      case measure=>simp[intOf];omega
   .have hq:(er != 0)=true:=by rw[bne_iff_ne];exact he
    have kt:(er==0)=false:=by rw[beq_eq_false_iff_ne];exact he
    have W2:=xh (show ∀w2,PQ w2 I F qn n (K+(i+1))->ag F wr w2->PQ (w2.alloc (.cells #[.int .i64 nx,.string ⟨pc.toArray⟩] 262)) I F qn n (K+(i+1))/\ag F w (w2.alloc (.cells #[.int .i64 nx,.string ⟨pc.toArray⟩] 262))from λw2 A2 o2=>by
     obtain⟨a1,a2,a3,a4⟩:=HA.o;have U:=ae (Below.refl w2.heap.size w2) (.cells #[.int .i64 nx,.string ⟨pc.toArray⟩] 262);exact⟨A2.below U,(a2.trans o2).trans (.aj U)⟩)
    by_cases h3:er=3/\0<i
    .rw[if_pos h3]at HW;subst HW;obtain⟨rfl,h3⟩:=h3;go_wp2_with fail;refine K1.o.mono ?_;rintro e w2 ⟨rfl,A2,o2⟩;obtain⟨A3,o3⟩:=W2.o w2 A2 o2;have A3:=xh A3;have o3:=xh o3;clear A2 o2;go_wp2_with fail
     go_ret3
     exact⟨none,0,0,by first|rfl|simp,aT.nil _ _ _,A3.o.le (by omega),o3.o,by simp[ai]⟩
    .rw[if_neg h3,if_pos he]at HW;subst HW;have h33:er=3->¬0<i:=λe h=>h3 ⟨e,h⟩;have hq3:i=0\/((er==3)=false/\er≠3):=by
      by_cases e:er=3
      .exact .inl (by have:=h33 e;omega)
      .exact .inr ⟨by rw[beq_eq_false_iff_ne];exact e,e⟩
     rcases hq3 with Ge|⟨hq3,hq4⟩
     all_goals
      clear h33 h3;go_wp2_with fail;refine K1.o.mono ?_;rintro e w2 ⟨rfl,A2,o2⟩;obtain⟨A3,o3⟩:=W2.o w2 A2 o2;have A3:=xh A3;have o3:=xh o3;clear A2 o2;go_wp2_with fail
      all_goals
       go_ret3
       exact⟨none,0,0,by first|rfl|simp,aT.nil _ _ _,A3.o.le (by omega),o3.o,by simp[ai]⟩
  .have HW:=HW.o;rw[show 5-i=0 by omega]at HW;unfold QS.py at HW;subst HW;go_wp2_with fail
   go_ret3
   exact⟨none,0,0,by first|rfl|simp,aT.nil _ _ _,HA.o.1.le (by omega),HA.o.2.1,by simp[ai]⟩
end Sh
namespace Sh
open Go.RowKit Pk Dk Pg
attribute [local go_sem ↓] Go.wp_at_zero Go.wp_at_succ
variable{w:World}{I:Ix}{F:List Nat}{n K:Nat}
theorem Ux{q:QS}(h:PQ w I F q n K)(hK:K<=999999999900)(p:Int):
  Calls prog 111 #[pp I.pb,.int .i64 p] w λe w'=>e=.returned (.tuple #[.string ⟨(q.eQ p).2.2.1.toArray⟩,.int .i64 (q.eQ p).2.2.2])/\PQ w' I F (q.eQ p).1 n (K+5)/\ag F w w':=by
 have KW:=xh (CO h hK p);generalize q.eQ p=R at *;clear h;unfold pp at *;go_enter func111,ntmps111;go_wp2_with fail;refine KW.o.mono ?_;rintro e w1 ⟨A,m,c,rfl,S1,A1,o1,f1⟩;have S1:=xh S1;have A1:=xh A1;have o1:=xh o1;go_wp2_with fail;go_ret2;exact aE ⟨A1.o,o1.o⟩
def QS.uz(q:QS):List Int->QS×Int
 |[]=>(q,0)
 |p::l=>if(q.aV p).2≠0 then((q.aV p).1,(q.aV p).2)else(q.aV p).1.uz l
def QS.qe(q:QS)(p:Int):QS×Int:=if(q.eQ p).2.2.2≠0 then((q.eQ p).1,(q.eQ p).2.2.2)else(q.eQ p).1.uz (q.eQ p).2.1
theorem CQ:∀(m:Nat) (q:QS) (p:Int) (l:List Int) (b:List UInt8),(q.py m p l b).2.1.length<=l.length+m
 |0,_,_,_,_=>by simp[QS.py]
 |m+1,q,p,l,b=>by
  unfold QS.py
  split
  .simp
  .split
   .simp
   .split
    .simp
    .split
     .simp<;>omega
     .have:=CQ m (q.fq p).1 (q.fq p).2.1 (l++[p]) (b++(q.fq p).2.2.1);simp only[aU,fI,iq]at this;omega
theorem Qt{q:QS}(h:PQ w I F q n K)(hK:K<=999999999900)(p:Int):
  Calls prog 123 #[pp I.pb,.int .i64 p] w λe w'=>e=.returned (.int .i64 (q.qe p).2)/\PQ w' I F (q.qe p).1 n (K+5)/\ag F w w':=by
 have KW:=xh (CO h hK p);have KD:=xh (λ(W:World) (b:QS) (hW:PQ W I F b n (K+5)) (y:Int)=>ra hW y);have oO:=xh h.lt;obtain⟨R,hR⟩:∃R,q.qe p=R:=⟨_,rfl⟩;rw[hR];unfold QS.qe at hR;have hlen:(q.eQ p).2.1.length<=5:=CQ 5 q p [] [];generalize q.eQ p=Q at *;obtain⟨q1,L,B,E⟩:=Q;dsimp only at *;clear h;unfold pp at *
 by_cases h0:E=0
 .subst h0;rw[if_neg (by simp)]at hR;have HR:=xh hR;clear hR;go_enter func123,ntmps123;go_wp2_with fail;refine KW.o.mono ?_;rintro e w1 ⟨A,m,c,rfl,S1,A1,o1,f1⟩;obtain⟨A',c',e⟩:=au S1;injection e with e1 e2 e3
  subst e1 e2 e3;have HL:=xh S1;have H1:=xh (And.intro A1 (And.intro o1 f1));clear S1 A1 o1 f1;go_wp2_with fail
  go_loopw [23] (λiv wr=> ∃(i:Nat) (b:QS),i<=L.length/\iv=.int .i64 i/\Hid (b.uz (L.drop i)=R)/\Hid (PQ wr I F b n (K+5)/\ag F w wr/\aT wr 3 1 (.slice A L.length c) L.length (dm L))) (λiv _=>L.length-(intOf iv).toNat)
  case atStart=>exact⟨0,q1,aY _,rfl,HR,xh ⟨H1.o.1,H1.o.2.1,HL.o⟩⟩
  case round=>
   obtain⟨i,b,hi,rfl,HW,HA⟩:=hrel
   by_cases h:i<L.length
   .obtain⟨x,hx⟩:∃x,L[i]?=some x:=⟨L[i],aL h⟩;have Hs:L.drop i=x::L.drop (i+1):=by
     rw[sg h]
     congr 1
     rw[aL h]at hx;injection hx
    obtain⟨g,cp,rest,hv,BB,_⟩:∃g cp rest,(Value.slice A L.length c)= .slice (some ⟨g,0,none⟩) L.length cp/\aJ wr g 3 (dm L++rest).toArray/\True:=by
     rcases HA.o.2.2.2 with⟨h1,h2⟩|⟨g,cap,rest,h1,h2,_⟩
     .omega
     .exact⟨g,cap,rest,h1,h2,trivial⟩
    injection hv with e1 e2 e3
    subst e1 e3;have cx:wr.cell? ⟨g,i,none⟩=some (.int .i64 x):=BB.ab (by
     rw[dj,bF (by simpa using h)];simp[dm,hx])
    have xw:=HW.o;rw[Hs]at xw;unfold QS.uz at xw;have K2:=xh (KD.o wr b HA.o.1 x);have hiI:(i:Int)<(L.length:Int):=by omega
    have hl5:(L.length:Int)<=5:=by have:=hlen;omega
    have HFR:=xh (show ∀g'∈ai (.slice (some ⟨g,0,none⟩) L.length c),g'∉F from λg' hg hF=>by have:=H1.o.2.2 g' hg;have:=oO.o g' hF;omega);generalize b.aV x=D at *;obtain⟨D1,D2⟩:=D;dsimp only at *
    by_cases hd:D2=0
    .subst hd;rw[if_neg (by simp)]at xw;have xw:=xh xw;clear BB hx Hs;go_wp2_with fail;refine K2.o.mono ?_;rintro e w2 ⟨rfl,A2,o2⟩;have H2:=xh (show PQ w2 I F D1 n (K+5)/\ag F w w2/\aT w2 3 1 (.slice (some ⟨g,0,none⟩) L.length c) L.length (dm L)from⟨A2,HA.o.2.1.trans o2,HA.o.2.2.only o2 HFR.o⟩);clear A2 o2 cx;go_wp2_with fail;go_roundw
     case rel=>exact⟨i+1,D1,by omega,by go_num,xw,H2⟩
     case measure=>simp[intOf];omega
    .rw[if_pos hd]at xw;subst xw;have hq:(D2 != 0)=true:=by rw[bne_iff_ne];exact hd
     have kt:(D2==0)=false:=by rw[beq_eq_false_iff_ne];exact hd
     clear BB hx Hs;go_wp2_with fail;refine K2.o.mono ?_;rintro e w2 ⟨rfl,A2,o2⟩;have H2:=xh (show PQ w2 I F D1 n (K+5)/\ag F w w2 from⟨A2,HA.o.2.1.trans o2⟩);clear A2 o2 cx;go_wp2_with fail;go_ret;exact aE ⟨H2.o.1,H2.o.2⟩
   .have xw:=HW.o;rw[lJ (by omega)]at xw;unfold QS.uz at xw;subst xw;obtain rfl:i=L.length:=by omega
    go_wp2_with fail;go_ret;exact aE ⟨HA.o.1,HA.o.2.1⟩
 .rw[if_pos h0]at hR;subst hR;have hq:(E != 0)=true:=by rw[bne_iff_ne];exact h0
  have kt:(E==0)=false:=by rw[beq_eq_false_iff_ne];exact h0
  go_enter func123,ntmps123;go_wp2_with fail;refine KW.o.mono ?_;rintro e w1 ⟨A,m,c,rfl,S1,A1,o1,f1⟩;have H1:=xh (And.intro A1 o1);clear S1 A1 o1 f1;go_wp2_with fail;go_ret;exact aE ⟨H1.o.1,H1.o.2⟩
attribute [local go_sem ↓] bz
def kq(v:List UInt8)(i:Nat)(next:Int):List UInt8:=qc (next+1).toNat++qc (dZ v i).length++dZ v i
def QS.m7(q:QS):List Int->QS
 |[]=>q
 |p::l=>(q.aV p).1.m7 l
theorem QS.uA(q:QS)(p:Int)(l:List Int):q.m7 (p::l)=(q.aV p).1.m7 l:=rfl
def QS.sL(v:List UInt8):Nat->QS->Int->List Int->QS×Int×Int
 |0,q,next,_=>(q,next,0)
 |i+1,q,next,made=>
  if(q.bV (kq v i next)).2.2≠0 then((q.bV (kq v i next)).1.m7 made,0,(q.bV (kq v i next)).2.2)
  else QS.sL v i (q.bV (kq v i next)).1 (q.bV (kq v i next)).2.1 (made++[(q.bV (kq v i next)).2.1])
def QS.qf(q:QS)(v:List UInt8):QS×Int×Int:=if 1024<v.length then(q,0,4)else QS.sL v (ik v.length).toNat q (-1) []
theorem newF_bd(a:St)(p:List UInt8):0<=(a.bV p).2.1/\(a.bV p).2.1<=511:=by
 unfold St.bV
 split
 .exact⟨by show(0:Int)<=0;omega,by show(0:Int)<=511;omega⟩
 .split
  .exact⟨by show(0:Int)<=0;omega,by show(0:Int)<=511;omega⟩
  .exact⟨by show(0:Int)<=(a.slot:Nat);omega,by show((a.slot:Nat):Int)<=511;omega⟩
theorem Uy(q:QS)(p:List UInt8):0<=(q.bV p).2.1/\(q.bV p).2.1<=511:=newF_bd q.a p
theorem Uz{q:QS}(h:PQ w I F q n K)(v:ByteArray)(hv:v.size<=1024)(hK:K<=999999999900):
  Calls prog 124 #[pp I.pb,.string v] w λe w'=>e=.returned (.tuple #[.int .i64 (q.qf v.data.toList).2.1,.int .i64 (q.qf v.data.toList).2.2])/\PT w w' I F (q.qf v.data.toList).1 n (K+5):=by
 have hvl:v.data.toList.length=v.size:=by simp
 obtain⟨R,hR⟩:∃R,q.qf v.data.toList=R:=⟨_,rfl⟩;rw[hR];unfold QS.qf at hR;rw[if_neg (by omega),hvl]at hR;have hn1:1<=ik v.size/\ik v.size<=5:=by unfold ik;omega
 have RZ:228*(ik v.size-1)<=v.size:=by unfold ik;omega
 have KN:=xh (CM (v.size:Nat) (by omega));obtain⟨m,hm⟩:=eT (show 0<=ik v.size by omega);rw[hm]at hn1 RZ KN hR;rw[show((m:Nat):Int).toNat=m by omega]at hR;have HR:=xh hR;have O0:=xh (ae (Below.refl w.heap.size w) (.cells #[.string v] 9));have B0:=xh (aJ.new w 9 #[.string v]);have q0:=B0.o.ab (i:=0) rfl;have HQ:=xh (h.below O0.o);have oO:=xh h.lt
 have KNEW:=xh (λ(W:World) (F':List Nat) (b:QS) (j:Nat) (hW:PQ W I F' b n j) (s:ByteArray) (hs:s.size<=232) (hj:j<=1000000000000)=>zM hW hj s hs);have KD:=xh (λ(W:World) (F':List Nat) (b:QS) (j:Nat) (hW:PQ W I F' b n j) (y:Int)=>ra hW y);have KP:=xh (λ(W:World) (hq:W.cell? ⟨w.heap.size,0,none⟩=some (.string v)) (i:Nat) (hi:228*i<=v.size)=>Qq v hv hq i hi);have KT:=xh eZ;have hm1:IntKind.i64.wrap ((m:Int)-1)=(m:Int)-1:=IntWalk.i64_in _ (by omega)
 clear h hR;unfold pp at *;go_enter func124,ntmps124;go_wp2_with fail;refine(KN.o _).mono ?_;rintro e w1 ⟨rfl,rfl⟩;go_wp2_with fail
 go_loopw [7,8,9] (λmv nv iv wr=> ∃(j:Nat) (b:QS) (nx:Nat) (made:List Int) (F':List Nat),j<=m/\iv=.int .i64 ((j:Int)-1)/\nv=.int .i64 ((nx:Int)-1)/\nx<=512/\made.length=m-j/\aT wr 3 1 mv made.length (dm made)/\Hid (QS.sL v.data.toList j b ((nx:Int)-1) made=R)/\
   Hid (PQ wr I F' b n (K+(m-j))/\ag F w wr/\(∀g∈F',g∈F\/w.heap.size<=g)/\(∀g∈ai mv,w.heap.size<=g/\g∉F')/\aJ wr w.heap.size 9 #[.string v]/\w.heap.size∉F')) (λ_ _ iv _=>(intOf iv+1).toNat)
 case atStart=>exact⟨m,q,0,[],F,ak _,rfl,rfl,by omega,by simp,aT.nil _ _ _,HR,xh ⟨by rw[show K+(m-m)=K by omega];exact HQ.o,.aj O0.o,λg hg=> .inl hg,by simp[ai],B0.o,λhF=>by have:=oO.o _ hF;omega⟩⟩
 case round=>
  obtain⟨j,b,nx,made,F',hj,rfl,rfl,NJ,oh,S,HW,HA⟩:=hrel;obtain⟨VM,vm,rfl⟩:=au S
  by_cases h0:0<j
  .obtain⟨i,rfl⟩:∃i,j=i+1:=⟨j-1,by omega⟩;have hz:((i+1:Nat):Int)-1=(i:Nat):=by omega
   rw[hz];have q1:=HA.o.2.2.2.2.1.ab (i:=0) rfl;have NI:228*i<=v.size:=by omega
   have K1:=xh (KP.o wr q1 i NI);have x6:(dZ v.data.toList i).length<=228:=by unfold dZ;rw[bm];omega
   have xw:=HW.o;unfold QS.sL at xw;have hlk:kq v.data.toList i ((nx:Int)-1)=(((⟨(qc nx).toArray⟩:ByteArray)++⟨(qc (dZ v.data.toList i).length).toArray⟩)++⟨(dZ v.data.toList i).toArray⟩:ByteArray).data.toList:=by
    unfold kq;rw[show((nx:Int)-1+1).toNat=nx by omega];simp
   rw[hlk]at xw;have hps:(⟨(dZ v.data.toList i).toArray⟩:ByteArray).size=(dZ v.data.toList i).length:=by show(dZ v.data.toList i).toArray.size=_;simp
   have hts:∀x,(⟨(qc x).toArray⟩:ByteArray).size=2:=λx=>rfl;have hss:(((⟨(qc nx).toArray⟩:ByteArray)++⟨(qc (dZ v.data.toList i).length).toArray⟩)++⟨(dZ v.data.toList i).toArray⟩:ByteArray).size<=232:=by
    rw[DT,DT,hts,hts,hps];omega
   have K2:=xh (KT.o nx (by omega));have K3:=xh (KT.o (dZ v.data.toList i).length (by omega));have K4:=xh (λ(W:World) (hW:PQ W I F' b n (K+(m-(i+1))))=>KNEW.o W F' b _ hW _ hss (by omega));have u1:IntKind.i64.wrap (nx:Int)=(nx:Int):=IntWalk.i64_in _ (by omega);have hbd:=Uy b ((((⟨(qc nx).toArray⟩:ByteArray)++⟨(qc (dZ v.data.toList i).length).toArray⟩)++⟨(dZ v.data.toList i).toArray⟩:ByteArray).data.toList);have t1:=hts nx
   have t2:=hts (dZ v.data.toList i).length;generalize (⟨(qc nx).toArray⟩:ByteArray)=T1 at *;generalize (⟨(qc (dZ v.data.toList i).length).toArray⟩:ByteArray)=T2 at *;generalize (⟨(dZ v.data.toList i).toArray⟩:ByteArray)=PC at *;have z1:¬9223372036854775807<T1.size+T2.size:=by omega
   have z2:¬9223372036854775807<(T1++T2).size+PC.size:=by rw[DT];omega
   clear hlk hts hss;generalize b.bV (T1++T2++PC).data.toList=D at *;obtain⟨D1,D2,D3⟩:=D;dsimp only at *;have HS:=xh (show ∀w4 w5 F5,Below wr.heap.size wr w4->PQ w5 I F5 D1 n (K+(m-(i+1))+1)->ag F' w4 w5->(∀g∈F5,g∈F'\/w4.heap.size<=g)->
     PQ w5 I F5 D1 n (K+(m-(i+1))+1)/\ag F w w5/\(∀g∈F5,g∈F\/w.heap.size<=g)/\aT w5 3 1 (.slice VM made.length vm) made.length (dm made)/\(∀g∈ai (.slice VM made.length vm),w.heap.size<=g/\g∉F5)/\aJ w5 w.heap.size 9 #[.string v]/\w.heap.size∉F5 from λw4 w5 F5 hb A5 o5 f5=>by
    obtain⟨a1,a2,a3,a4,a5,a6⟩:=HA.o;have s4:=S.below hb;have b4:=a5.below hb a5.lt;have hw4:w.heap.size<=w4.heap.size:=ar a2.size hb.size
    refine⟨A5,(a2.trans (.aj hb)).aO o5 (λg hg dH=>(a3 g hg).elim id (λh=>by omega)),λg hg=>(f5 g hg).elim (a3 g) (λh=> .inr (by omega)),s4.only o5 (λg hg=>(a4 g hg).2),λg hg=>⟨(a4 g hg).1,λhF=>(f5 g hF).elim (a4 g hg).2 (λh=>by have:=s4.lt g hg;omega)⟩,b4.only o5 a6,λhF=>(f5 _ hF).elim a6 (λh=>by have:=b4.lt;omega)⟩)
   by_cases hd:D3=0
   .subst hd;rw[if_neg (by simp)]at xw;obtain⟨d2,rfl⟩:=eT hbd.1;have HW3:=xh xw;clear xw;go_wp2_with fail;refine K1.o.mono ?_;rintro e w2 ⟨rfl,rfl⟩;go_wp2_with fail;refine(K2.o _).mono ?_;rintro e w3 ⟨rfl,gh⟩;have H3:=xh gh;go_wp2_with fail;refine(K3.o _).mono ?_;rintro e w4 ⟨rfl,jw⟩;have H4:=xh (aB H3.o jw);clear gh jw;go_wp2_with fail;refine(K4.o _ (HA.o.1.below H4.o)).mono ?_;rintro e w5 ⟨rfl,F5,A5,o5,f5⟩
    have H5:=xh (HS.o w4 w5 F5 H4.o A5 o5 f5);clear A5 o5 f5;obtain⟨v',w6,ea,S6,ow,fr⟩:=cQ (P:=prog) H5.o.2.2.2.1 60 60 (.int .i64 0) 8 underlying60 ji rfl (.int .i64 (d2:Nat)) rfl (by unfold maxLen;omega) (by omega);obtain⟨V6,c6,rfl⟩:=au S6
    have H6:=xh (show aT w6 3 1 (.slice V6 (made.length+1) c6) (made++[(d2:Int)]).length (dm (made++[(d2:Int)]))/\PQ w6 I F5 D1 n (K+(m-i))/\ag F w w6/\(∀g∈F5,g∈F\/w.heap.size<=g)/\(∀g∈ai (.slice V6 (made.length+1) c6),w.heap.size<=g/\g∉F5)/\aJ w6 w.heap.size 9 #[.string v]/\w.heap.size∉F5 from by
     obtain⟨a1,a2,a3,a4,a5,a6,a7⟩:=H5.o;refine⟨by rw[aU,gi];exact S6,(a1.only ow (λg hF hg=>(a5 g hg).2 hF)).le (by omega),a2.aO ow (λg hg dH=>by have:=(a5 g hg).1;omega),a3,λg hg=>?_,a6.only ow (λhg=>cU a4 a6 (by decide) hg),a7⟩
     rcases fr g hg with h|h
     .exact a5 g h
     .exact⟨by have:=a2.size;omega,λhF=>by have:=a1.lt g hF;omega⟩)
    rw[oh]at ea;have EA:=xh ea;clear ea S6 ow fr;go_wp2_with fail;rw[EA.o];go_wp2_with fail;go_roundw
    case rel=>exact⟨i,D1,d2+1,made++[(d2:Int)],F5,by omega,by go_num,by simp,by omega,by rw[aU,oh,mS];omega,by have:=H6.o.1;rw[oh]at this;exact this,by rw[show((d2+1:Nat):Int)-1=(d2:Nat) by omega];exact HW3,xh ⟨H6.o.2.1,H6.o.2.2.1,H6.o.2.2.2.1,by have:=H6.o.2.2.2.2.1;rw[oh]at this;exact this,H6.o.2.2.2.2.2.1,H6.o.2.2.2.2.2.2⟩⟩
    case measure=>simp[intOf]<;>omega
   .rw[if_pos hd]at xw;subst xw;have hq:(D3 != 0)=true:=by rw[bne_iff_ne];exact hd
    have kt:(D3==0)=false:=by rw[beq_eq_false_iff_ne];exact hd
    go_wp2_with fail;refine K1.o.mono ?_;rintro e w2 ⟨rfl,rfl⟩;go_wp2_with fail;refine(K2.o _).mono ?_;rintro e w3 ⟨rfl,gh⟩;have H3:=xh gh;go_wp2_with fail;refine(K3.o _).mono ?_;rintro e w4 ⟨rfl,jw⟩;have H4:=xh (aB H3.o jw);clear gh jw;go_wp2_with fail;refine(K4.o _ (HA.o.1.below H4.o)).mono ?_;rintro e w5 ⟨rfl,F5,A5,o5,f5⟩;have H5:=xh (HS.o w4 w5 F5 H4.o A5 o5 f5);clear A5 o5 f5;have hml2:(made.length:Int)<=5:=by omega
    have HM:=xh oh;rw[<-oh];clear oh;go_wp2_with fail
    go_loopw [52] (λtv wq=> ∃(t:Nat) (b':QS),t<=made.length/\tv=.int .i64 t/\Hid (b'.m7 (made.drop t)=D1.m7 made)/\Hid (PQ wq I F5 b' n (K+(m-(i+1))+1)/\ag F w wq/\aT wq 3 1 (.slice VM made.length vm) made.length (dm made))) (λtv _=>made.length-(intOf tv).toNat)
    case atStart=>exact⟨0,D1,aY _,rfl,xh rfl,xh ⟨H5.o.1,H5.o.2.1,H5.o.2.2.2.1⟩⟩
    case round=>
     obtain⟨t,b',ht,rfl,HT,HB⟩:=hrel
     by_cases dH:t<made.length
     .obtain⟨x,hx⟩:∃x,made[t]?=some x:=⟨made[t],aL dH⟩;have Hs:made.drop t=x::made.drop (t+1):=by
       rw[sg dH]
       congr 1
       rw[aL dH]at hx;injection hx
      obtain⟨g,cp,rest,Ry,BB,_⟩:∃g cp rest,(Value.slice VM made.length vm)= .slice (some ⟨g,0,none⟩) made.length cp/\aJ wr g 3 (dm made++rest).toArray/\True:=by
       rcases HB.o.2.2.2 with⟨h1,h2⟩|⟨g,cap,rest,h1,h2,_⟩
       .omega
       .exact⟨g,cap,rest,h1,h2,trivial⟩
      injection Ry with e1 e2 e3
      subst e1 e3;have cx:wr.cell? ⟨g,t,none⟩=some (.int .i64 x):=BB.ab (by
       rw[dj,bF (by simpa using dH)];simp[dm,hx])
      have HT2:=HT.o;rw[Hs,QS.uA]at HT2;have HT3:=xh HT2;have K6:=xh (KD.o wr F5 b' _ HB.o.1 x);have htI:(t:Int)<(made.length:Int):=by omega
      clear BB hx Hs HT2;go_wp2_with fail;refine K6.o.mono ?_;rintro e w7 ⟨rfl,A7,o7⟩;have H7:=xh (show PQ w7 I F5 (b'.aV x).1 n (K+(m-(i+1))+1)/\ag F w w7/\aT w7 3 1 (.slice (some ⟨g,0,none⟩) made.length vm) made.length (dm made)from⟨A7,HB.o.2.1.aO o7 (λg hg dH=>(H5.o.2.2.1 g hg).elim id (λh=>by omega)),HB.o.2.2.only o7 (λg' hg=>(H5.o.2.2.2.2.1 g' hg).2)⟩);clear A7 o7 cx;go_wp2_with fail;go_roundw
      case rel=>exact⟨t+1,(b'.aV x).1,by omega,by go_num,HT3,H7⟩
      case measure=>simp[intOf];omega
     .have HT2:=HT.o;rw[lJ (by omega)]at HT2;have HT2:b'=D1.m7 made:=HT2;subst HT2;obtain rfl:t=made.length:=by omega
      go_wp2_with fail;go_ret2;exact aE ⟨F5,HB.o.1.le (by omega),HB.o.2.1,H5.o.2.2.1⟩
  .obtain rfl:j=0:=by omega
   have xw:=HW.o;unfold QS.sL at xw;subst xw;go_wp2_with fail;go_ret2;exact aE ⟨F',HA.o.1.le (by omega),HA.o.2.1,HA.o.2.2.1⟩
end Sh
namespace Sl
open Go.RowKit
def eS(n:Nat):List UInt8:=[UInt8.ofNat (n / 256),UInt8.ofNat n]
def bS(b:List UInt8)(k:Nat):Nat:=(b.getD k 0).toNat*256+(b.getD (k+1) 0).toNat
abbrev Slot:=Nat×Nat
def slot(b:List UInt8)(i:Nat):Slot:=(bS b (4+4*i),bS b (6+4*i))
def bI(b:List UInt8):List Slot:=(List.range (bS b 0)).map (slot b)
def apart(x y:Slot):Bool:=decide (x.2=0) || (decide (y.2=0) || (decide (x.1+x.2<=y.1) || decide (y.1+y.2<=x.1)))
structure Fit(heap:Nat)(l:List Slot):Prop where
 pE:∀x∈l,heap<=x.1/\x.1+x.2<=232
 apart:l.Pairwise λx y=>Sl.apart x y=true
structure Sound(b:List UInt8):Prop where
 len:b.length=232
 heap:bS b 2<=232
 head:4+4*bS b 0<=bS b 2
 fit:Fit (bS b 2) (bI b)
def vQ(l:List Slot):Nat:=(l.map Prod.snd).sum
def lN(b:List UInt8)(x:Slot):List UInt8:=(b.drop x.1).take x.2
def cZ(b:List UInt8):List (List UInt8):=(bI b).map (lN b)
theorem zQ(b:List UInt8)(k:Nat):bS b k<65536:=by
 have h1:=(b.getD k 0).toNat_lt;have h2:=(b.getD (k+1) 0).toNat_lt;unfold bS;omega
theorem da(b:List UInt8):(bI b).length=bS b 0:=by simp[bI]
theorem CR(b:List UInt8)(i:Nat)(h:i<bS b 0):(bI b)[i]?=some (slot b i):=by simp[bI,h]
theorem oT(x y:Slot):apart x y=apart y x:=by
 unfold apart
 cases h1:decide (x.2=0)<;>cases h2:decide (y.2=0)<;>cases h3:decide (x.1+x.2<=y.1)<;>cases h4:decide (y.1+y.2<=x.1)<;>rfl
theorem re(x y:Slot):apart x y=true↔x.2=0\/y.2=0\/x.1+x.2<=y.1\/y.1+y.2<=x.1:=by simp[apart]
theorem UA(x y:Slot):apart x y=false↔ ∃k,(x.1<=k/\k<x.1+x.2)/\(y.1<=k/\k<y.1+y.2):=by
 constructor
 .intro h;have:¬(x.2=0\/y.2=0\/x.1+x.2<=y.1\/y.1+y.2<=x.1):=by rw[<-re];simp[h]
  refine⟨max x.1 y.1,⟨by omega,by omega⟩,⟨by omega,by omega⟩⟩
 .rintro⟨k,h1,h2⟩
  cases h:apart x y
  .rfl
  .rw[re]at h;omega
def zR(l:List Slot)(x:Slot):Bool:=l.all λy=>apart x y
def UB(heap:Nat):List Slot->List Slot->Bool
 |_,[]=>true
 |p,x::l=>decide (heap<=x.1) && (decide (x.1+x.2<=232) && (zR p x && UB heap (p++[x]) l))
def LX(b:List UInt8):Bool:=decide (b.length=232) && (decide (bS b 2<=232) && (decide (4+4*bS b 0<=bS b 2) && UB (bS b 2) [] (bI b)))
theorem Fit.snoc{heap:Nat}{p:List Slot}{x:Slot}:Fit heap (p++[x])↔Fit heap p/\(heap<=x.1/\x.1+x.2<=232)/\∀y∈p,Sl.apart x y=true:=by
 constructor
 .rintro⟨h1,h2⟩;rw[dR]at h2;exact⟨⟨λy hy=>h1 y (by simp[hy]),h2.1⟩,h1 x (by simp),λy hy=>by rw[oT];exact h2.2.2 y hy x (by simp)⟩
 .rintro⟨⟨h1,h2⟩,h3,h4⟩;refine⟨λy hy=>?_,?_⟩
  .rcases aC.1 hy with h|h
   .exact h1 y h
   .simp at h;subst h;exact h3
  .rw[dR];exact⟨h2,by simp,λy hy z hz=>by simp at hz;subst hz;rw[oT];exact h4 y hy⟩
theorem Fit.nil(heap:Nat):Fit heap []:=⟨λx h=>by simp at h,by simp⟩
theorem UC(heap:Nat)(l:List Slot):∀p:List Slot,Fit heap p->(UB heap p l=true↔Fit heap (p++l)):=by
 induction l with
 |nil=>intro p h;simp[UB,h]
 |cons x l ih=>
  intro p h;have key:(heap<=x.1/\x.1+x.2<=232/\zR p x=true)↔Fit heap (p++[x]):=by
   rw[Fit.snoc];simp only[zR,r5];exact⟨λ⟨h1,h2,h3⟩=>⟨h,⟨h1,h2⟩,h3⟩,λ⟨_,⟨h1,h2⟩,h3⟩=>⟨h1,h2,h3⟩⟩
  simp only[UB,im,decide_eq_true_eq]
  constructor
  .rintro⟨h1,h2,h3,h4⟩;have hf:=key.1 ⟨h1,h2,h3⟩;have:=(ih _ hf).1 h4;simpa using this
  .intro hf;have hp:Fit heap (p++[x]):=by
    refine⟨λy hy=>hf.pE y (by simp at hy ⊢;rcases hy with h|h<;>simp[h]),?_⟩;have:=hf.apart;rw[show p++x::l=(p++[x])++l by simp,dR]at this;exact this.1
   obtain⟨h1,h2,h3⟩:=key.2 hp;exact⟨h1,h2,h3,(ih _ hp).2 (by simpa using hf)⟩
theorem sM(b:List UInt8):LX b=true↔Sound b:=by
 have h:=UC (bS b 2) (bI b) [] (Fit.nil _);rw[cW]at h;simp only[LX,im,decide_eq_true_eq,h];exact⟨λ⟨h1,h2,h3,h4⟩=>⟨h1,h2,h3,h4⟩,λh=>⟨h.len,h.heap,h.head,h.fit⟩⟩
def cu(b:List UInt8):Int:=if b.length=232 then(if LX b then 0 else 14)else 6
theorem eH(b:List UInt8):cu b=0↔Sound b:=by
 rw[<-sM];unfold cu
 constructor
 .intro h
  split at h
  .split at h
   .assumption
   .cases h
  .cases h
 .intro h;have:=((sM b).1 h).len;rw[if_pos this,if_pos h]
def iC(b:List UInt8):Int:=228-((((bI b).map λx=>4+x.2).sum:Nat):Int)
def cover(l:List Slot)(k:Nat):Bool:=l.any λx=>decide (x.1<=k) && decide (k<x.1+x.2)
theorem count_range(a n m:Nat)(h:a+n<=m):((List.range m).countP λk=>decide (a<=k) && decide (k<a+n))=n:=by
 induction m generalizing n with
 |zero=>
  have:n=0:=by omega
  subst this;simp
 |succ m ih=>
  rw[Eg,r7]
  rcases eR (a+n) (m+1)with h1|h1
  .rw[ih n (by omega)];simp;omega
  .obtain rfl|hn:n=0\/0<n:=yn n
   .have:(List.range m).countP (λk=>decide (a<=k) && decide (k<a+0))=0:=by
     rw[JC];intro k _;simp<;>omega
    rw[this];simp<;>omega
   .have e:(List.range m).countP (λk=>decide (a<=k) && decide (k<a+n))=(List.range m).countP (λk=>decide (a<=k) && decide (k<a+(n-1))):=by
     apply r8;intro k hk;have:=kR.1 hk;simp;omega
    rw[e,ih (n-1) (by omega)];simp;have:a<=m/\m<a+n:=by omega
    simp[this];omega
theorem Ht(l:List Slot)(heap:Nat)(h:Fit heap l):(List.range 232).countP (cover l)=vQ l:=by
 induction l with
 |nil=>simp[cover,vQ]
 |cons x l ih=>
  have hx:=h.pE x (by simp);have hp:=ef.1 h.apart;have ht:Fit heap l:=⟨λy hy=>h.pE y (by simp[hy]),hp.2⟩;have e:(List.range 232).countP (cover (x::l))=(List.range 232).countP (λk=>decide (x.1<=k) && decide (k<x.1+x.2))+(List.range 232).countP (cover l):=by
   generalize List.range 232=r
   induction r with
   |nil=>rfl
   |cons k r ihr=>
    simp only[List.countP_cons,ihr];have hdis:¬((x.1<=k/\k<x.1+x.2)/\cover l k=true):=by
     rintro⟨h1,h2⟩;simp only[cover,List.any_eq_true,im,decide_eq_true_eq]at h2;obtain⟨y,hy,h3⟩:=h2;have hn:=(UA x y).2 ⟨k,h1,h3⟩;rw[hp.1 y hy]at hn;cases hn
    have ec:cover (x::l) k=((decide (x.1<=k) && decide (k<x.1+x.2)) || cover l k):=rfl;rw[ec]
    cases h1:(decide (x.1<=k) && decide (k<x.1+x.2))<;>cases h2:cover l k
    .simp
    .simp;omega
    .simp;omega
    .exfalso;apply hdis;simp at h1;exact⟨h1,h2⟩
  rw[e,count_range _ _ _ hx.2,ih ht];simp[vQ]
theorem CT(l:List Slot)(heap:Nat)(h:Fit heap l)(hh:heap<=232):vQ l<=232-heap:=by
 rw[<-Ht l heap h];have e:(List.range 232).countP (cover l)<=(List.range 232).countP (λk=>decide (heap<=k) && decide (k<heap+(232-heap))):=by
  apply List.countP_mono_left;intro k hk hc;simp only[cover,List.any_eq_true,im,decide_eq_true_eq]at hc;obtain⟨y,hy,h3⟩:=hc;have:=h.pE y hy;have:=kR.1 hk;simp;omega
 have:=count_range heap (232-heap) 232 (by omega);omega
variable{F c b:List UInt8}{o:Nat}
def lay(F:List UInt8)(o:Nat)(c:List UInt8):List UInt8:=F.take o++c++F.drop (o+c.length)
theorem iO(h:o+c.length<=F.length):(lay F o c).length=F.length:=by
 simp[lay];omega
theorem ua(F:List UInt8)(o:Nat)(c:List UInt8):putAt (dI F) o (dI c)=dI (lay F o c):=by
 simp[putAt,lay,dI]
theorem oL(h:o+c.length<=F.length)(j:Nat):(lay F o c)[j]?=if o<=j/\j<o+c.length then c[j-o]? else F[j]?:=by
 unfold lay
 by_cases h1:j<o
 .rw[if_neg (by omega),cr,bF (by simp;omega),pN h1]
 .have e:(F.take o).length=o:=by simp;omega
  by_cases h2:j<o+c.length
  .rw[if_pos ⟨by omega,h2⟩,cr,dW (by omega),e,bF (by omega)]
  .rw[if_neg (by omega),dW (by simp;omega),gI]
   congr 1
   simp;omega
def mD(b:List UInt8)(k n:Nat):List UInt8:=(b.set k (UInt8.ofNat (n / 256))).set (k+1) (UInt8.ofNat n)
theorem eO(b:List UInt8)(k n:Nat):(mD b k n).length=b.length:=by simp[mD]
theorem nO(b:List UInt8)(k n j:Nat)(h:j<k\/k+1<j):(mD b k n)[j]?=b[j]?:=by
 unfold mD;rw[gJ (by omega),gJ (by omega)]
theorem at2_eq{k:Nat}(h0:b[k]?=c[k]?)(h1:b[k+1]?=c[k+1]?):bS b k=bS c k:=by
 simp only[bS,List.getD,h0,h1]
theorem fc(b:List UInt8)(k n j:Nat)(h:j+1<k\/k+1<j):bS (mD b k n) j=bS b j:=
 at2_eq (nO b k n j (by omega)) (nO b k n (j+1) (by omega))
theorem uB(b:List UInt8)(k n:Nat)(h:k+1<b.length)(hn:n<65536):bS (mD b k n) k=n:=by
 have e0:(mD b k n)[k]?=some (UInt8.ofNat (n / 256)):=by
  unfold mD;rw[gJ (by omega),dO (by omega)]
 have e1:(mD b k n)[k+1]?=some (UInt8.ofNat n):=by
  unfold mD;rw[dO (by simpa using h)]
 simp only[bS,List.getD,e0,e1,jc,je];omega
def gZ(b:List UInt8)(l:List Slot)(heap:Nat):Nat->List UInt8
 |0=>mD (mD b 0 l.length) 2 heap
 |i+1=>mD (mD (gZ b l heap i) (4+4*i) (l.getD i (0,0)).1) (6+4*i) (l.getD i (0,0)).2
def kF(b:List UInt8)(l:List Slot)(heap:Nat):List UInt8:=gZ b l heap l.length
theorem kX(b:List UInt8)(l:List Slot)(heap:Nat):∀i,(gZ b l heap i).length=b.length
 |0=>by simp[gZ,eO]
 |i+1=>by rw[gZ,eO,eO];exact kX b l heap i
theorem zS(b:List UInt8)(l:List Slot)(heap:Nat)(j:Nat):∀i,4+4*i<=j->(gZ b l heap i)[j]?=b[j]?
 |0,h=>by rw[gZ,nO _ _ _ _ (by omega),nO _ _ _ _ (by omega)]
 |i+1,h=>by rw[gZ,nO _ _ _ _ (by omega),nO _ _ _ _ (by omega)];exact zS b l heap j i (by omega)
theorem rf(b:List UInt8)(l:List Slot)(heap:Nat)(hb:b.length=232)(hh:heap<65536)(hl:l.length<65536)(hx:∀x∈l,x.1<65536/\x.2<65536):
  ∀i,i<=l.length->4+4*i<=232->bS (gZ b l heap i) 0=l.length/\bS (gZ b l heap i) 2=heap/\∀k,k<i->slot (gZ b l heap i) k=l.getD k (0,0)
 |0,_,_=>by
  rw[gZ];refine⟨?_,?_,λk hk=>absurd hk (by omega)⟩
  .rw[fc _ _ _ _ (by omega),uB _ _ _ (by omega) hl]
  .rw[uB _ _ _ (by rw[eO];omega) hh]
 |i+1,hi,h4=>by
  obtain⟨h0,h2,hs⟩:=rf b l heap hb hh hl hx i (by omega) (by omega);have hlen:=kX b l heap i;rw[gZ];refine⟨?_,?_,λk hk=>?_⟩
  .rw[fc _ _ _ _ (by omega),fc _ _ _ _ (by omega)];exact h0
  .rw[fc _ _ _ _ (by omega),fc _ _ _ _ (by omega)];exact h2
  .unfold slot
   by_cases e:k=i
   .subst e;have hm:l.getD k (0,0)∈l:=by
     rw[List.getD,aL (by omega)];exact jJ _
    have:=hx _ hm;rw[fc _ _ _ _ (by omega),uB _ _ _ (by omega) this.1,uB _ _ _ (by rw[eO];omega) this.2]
   .rw[fc _ _ _ _ (by omega),fc _ _ _ _ (by omega),fc _ _ _ _ (by omega),fc _ _ _ _ (by omega)];exact hs k (by omega)
section
variable{b:List UInt8}{l:List Slot}{heap:Nat}
structure Laid(b:List UInt8)(l:List Slot)(heap:Nat):Prop where
 len:b.length=232
 hh:heap<=232
 head:4+4*l.length<=heap
 fit:Fit heap l
theorem Laid.small(h:Laid b l heap):∀x∈l,x.1<65536/\x.2<65536:=λx hx=>by
 have:=(h.fit.pE x hx).2;omega
theorem Laid.n0(h:Laid b l heap):bS (kF b l heap) 0=l.length:=(rf b l heap h.len (by have:=h.hh;omega) (by have:=h.head;have:=h.hh;omega) h.small l.length (ak _) (by have:=h.head;have:=h.hh;omega)).1
theorem Laid.n2(h:Laid b l heap):bS (kF b l heap) 2=heap:=(rf b l heap h.len (by have:=h.hh;omega) (by have:=h.head;have:=h.hh;omega) h.small l.length (ak _) (by have:=h.head;have:=h.hh;omega)).2.1
theorem Laid.sl(h:Laid b l heap):bI (kF b l heap)=l:=by
 have hs:=(rf b l heap h.len (by have:=h.hh;omega) (by have:=h.head;have:=h.hh;omega) h.small l.length (ak _) (by have:=h.head;have:=h.hh;omega)).2.2;apply vg
 .rw[da,h.n0]
 .intro i h1 h2;have:(bI (kF b l heap))[i]=slot (kF b l heap) i:=by simp[bI]
  rw[this,show slot (kF b l heap) i=l.getD i (0,0)from hs i h2];simp[List.getD,aL h2]
theorem Laid.length(h:Laid b l heap):(kF b l heap).length=232:=(kX b l heap l.length).trans h.len
theorem Laid.sound(h:Laid b l heap):Sound (kF b l heap):=
 ⟨h.length,by rw[h.n2];exact h.hh,by rw[h.n2,h.n0];exact h.head,by rw[h.n2,h.sl];exact h.fit⟩
theorem Laid.rc(h:Laid b l heap):∀x∈l,lN (kF b l heap) x=lN b x:=by
 intro x hx;have h1:=(h.fit.pE x hx).1;unfold lN
 congr 1
 apply mu;intro j;rw[gI,gI];exact zS b l heap _ _ (by have:=h.head;omega)
theorem Laid.rcs(h:Laid b l heap):cZ (kF b l heap)=l.map (lN b):=by
 unfold cZ;rw[h.sl];exact gy h.rc
theorem Hu(h:o+c.length<=F.length)(x:Slot)(hx:x.1+x.2<=o\/o+c.length<=x.1):lN (lay F o c) x=lN F x:=by
 unfold lN;apply mu;intro j
 by_cases hj:j<x.2
 .rw[pN hj,pN hj,gI,gI,oL h,if_neg (by omega)]
 .rw[gu (by simp;omega),gu (by simp;omega)]
theorem CU(h:o+c.length<=F.length):lN (lay F o c) (o,c.length)=c:=by
 unfold lN;apply mu;intro j
 by_cases hj:j<c.length
 .rw[pN hj,gI,oL h,if_pos ⟨by omega,by omega⟩]
  congr 1;omega
 .rw[gu (by simp;omega),gu (by omega)]
end
structure rK where
 o:List UInt8
 to:List Slot
 heap:Nat
def CY:rK:=⟨List.replicate 232 0,[],232⟩
def rK.add(c:rK)(r:List UInt8):rK:=⟨lay c.o (c.heap-r.length) r,c.to++[(c.heap-r.length,r.length)],c.heap-r.length⟩
def rU(l:List (List UInt8)):rK:=l.foldl rK.add CY
structure rK.Ok(c:rK)(l:List (List UInt8)):Prop where
 len:c.o.length=232
 heap:c.heap+(l.map List.length).sum=232
 fit:Fit c.heap c.to
 cZ:c.to.map (lN c.o)=l
theorem UD:CY.Ok []:=⟨ez,rfl,Fit.nil _,rfl⟩
theorem Fit.mono{heap heap':Nat}{l:List Slot}(h:Fit heap l)(hh:heap'<=heap):Fit heap' l:=⟨λx hx=>⟨ar hh (h.pE x hx).1,(h.pE x hx).2⟩,h.apart⟩
theorem rK.Ok.add{c:rK}{l:List (List UInt8)}(h:c.Ok l)(r:List UInt8)(hr:r.length<=c.heap):(c.add r).Ok (l++[r]):=by
 have h1:=h.heap;have h2:=h.len;refine⟨by show(lay _ _ _).length=232;rw[iO (by omega)];exact h.len,by show c.heap-r.length+_=232;simp;omega,?_,?_⟩
 .show Fit (c.heap-r.length) (c.to++[(c.heap-r.length,r.length)]);rw[Fit.snoc];refine⟨h.fit.mono (Nat.sub_le _ _),⟨ak _,by show c.heap-r.length+r.length<=232;omega⟩,λy hy=>?_⟩;have:=(h.fit.pE y hy).1;rw[re];exact .inr (.inr (.inl (by show c.heap-r.length+r.length<=y.1;omega)))
 .show(c.to++[(c.heap-r.length,r.length)]).map (lN (lay c.o (c.heap-r.length) r))=l++[r];rw[dA,<-h.cZ]
  congr 1
  .apply gy;intro y hy;have:=(h.fit.pE y hy).1;exact Hu (by omega) y (.inr (by omega))
  .simp only[fN,qI];rw[CU (by omega)]
theorem zT(l:List (List UInt8))(h:(l.map List.length).sum<=232):(rU l).Ok l:=by
 have key:∀(l m:List (List UInt8)) (c:rK),c.Ok m->((m++l).map List.length).sum<=232->(l.foldl rK.add c).Ok (m++l):=by
  intro l
  induction l with
  |nil=>intro m c h _;simpa using h
  |cons r l ih=>
   intro m c h hs;have h1:=h.heap;have:=ih (m++[r]) (c.add r) (h.add r (by simp at hs h1;omega)) (by simpa using hs);simpa using this
 have:=key l [] CY UD (by simpa using h);rw[cW]at this;exact this
def gR(b:List UInt8):List UInt8:=kF (rU (cZ b)).o (rU (cZ b)).to (rU (cZ b)).heap
theorem xx{x:Slot}(h:x.1+x.2<=b.length):(lN b x).length=x.2:=by
 simp[lN];omega
theorem Sound.lens(h:Sound b):((cZ b).map List.length)=(bI b).map Prod.snd:=by
 unfold cZ;rw[j6];apply gy;intro x hx;exact xx (by rw[h.len];exact(h.fit.pE x hx).2)
theorem Sound.sum(h:Sound b):((cZ b).map List.length).sum<=232-bS b 2:=by
 rw[h.lens];exact CT _ _ h.fit h.heap
theorem rK.Ok.UE{c:rK}{l:List (List UInt8)}(h:c.Ok l):c.to.length=l.length:=by rw[<-h.cZ,fo]
theorem cV(b:List UInt8):(cZ b).length=bS b 0:=by simp[cZ,da]
theorem Sound.comp(h:Sound b):Laid (rU (cZ b)).o (rU (cZ b)).to (rU (cZ b)).heap:=by
 have hs:=h.sum;have hh:=h.heap;have h4:=h.head;have hc:=zT (cZ b) (by omega);have h1:=hc.heap;have h2:=hc.UE;rw[cV]at h2;exact⟨hc.len,by omega,by omega,hc.fit⟩
theorem Sound.compact(h:Sound b):Sound (gR b)/\cZ (gR b)=cZ b/\bS (gR b) 2+((cZ b).map List.length).sum=232/\bI (gR b)=(rU (cZ b)).to:=by
 have hs:=h.sum;have hh:=h.heap;have hc:=zT (cZ b) (by omega);have L:=h.comp;exact⟨L.sound,L.rcs.trans hc.cZ,by unfold gR;rw[L.n2];exact hc.heap,L.sl⟩
theorem zU(h:Sound b):iC b=228-4*(bS b 0:Int)-(((cZ b).map List.length).sum:Nat):=by
 rw[h.lens];have e:∀l:List Slot,(l.map λx=>4+x.2).sum=4*l.length+(l.map Prod.snd).sum:=by
  intro l
  induction l with
  |nil=>rfl
  |cons x l ih=>simp only[fN,kS,ih,fI];omega
 unfold iC;rw[e,da];omega
def jC(l:List (List UInt8)):Int:=228-((l.map λr=>4+r.length).sum:Nat)
theorem NM(h:Sound b):iC b=jC (cZ b):=by
 rw[zU h];have e:∀l:List (List UInt8),(l.map λr=>4+r.length).sum=4*l.length+(l.map List.length).sum:=by
  intro l
  induction l with
  |nil=>rfl
  |cons x l ih=>simp only[fN,kS,ih,fI];omega
 unfold jC;rw[e,cV];omega
def jV(b r:List UInt8):List UInt8:=if 4+4*(bS b 0+1)+r.length>bS b 2 then gR b else b
def sN(b:List UInt8)(i:Nat)(r:List UInt8):List UInt8:=
 kF (lay (jV b r) (bS (jV b r) 2-r.length) r) ((bI (jV b r)).take i++(bS (jV b r) 2-r.length,r.length)::(bI (jV b r)).drop i) (bS (jV b r) 2-r.length)
theorem Sound.base(h:Sound b)(r:List UInt8)(hr:(r.length:Int)<=iC b-4):Sound (jV b r)/\cZ (jV b r)=cZ b/\bS (jV b r) 0=bS b 0/\4+4*(bS b 0+1)+r.length<=bS (jV b r) 2:=by
 unfold jV
 split
 .obtain⟨h1,h2,h3,_⟩:=h.compact;have e0:bS (gR b) 0=bS b 0:=by rw[<-cV,<-cV,h2]
  rw[zU h]at hr;exact⟨h1,h2,e0,by omega⟩
 .exact⟨h,rfl,rfl,by omega⟩
theorem Laid.insert(h:Sound b)(i:Nat)(r:List UInt8)(hr:4+4*(bS b 0+1)+r.length<=bS b 2)(hi:i<=bS b 0):
  Laid (lay b (bS b 2-r.length) r) ((bI b).take i++(bS b 2-r.length,r.length)::(bI b).drop i) (bS b 2-r.length):=by
 have h1:=h.heap;have h2:=h.len;have hl:=da b;refine⟨by rw[iO (by omega)];exact h2,by omega,by simp[hl];omega,?_,?_⟩
 .intro x hx;have hx:x∈(bI b).take i\/x=(bS b 2-r.length,r.length)\/x∈(bI b).drop i:=by simpa using hx
  rcases hx with hx|rfl|hx
  .have:=h.fit.pE x (fZ hx);omega
  .exact⟨ak _,by show bS b 2-r.length+r.length<=232;omega⟩
  .have:=h.fit.pE x (mV hx);omega
 .have hp:=h.fit.apart;rw[<-kT i (bI b),dR]at hp;rw[dR,ef];have hz:∀y∈bI b,apart (bS b 2-r.length,r.length) y=true:=by
   intro y hy;have:=(h.fit.pE y hy).1;rw[re];exact .inr (.inr (.inl (by show bS b 2-r.length+r.length<=y.1;omega)))
  refine⟨hp.1,⟨λy hy=>hz y (mV hy),hp.2.1⟩,λx hx y hy=>?_⟩
  rcases an.1 hy with rfl|hy
  .rw[oT];exact hz x (fZ hx)
  .exact hp.2.2 x hx y hy
theorem Sound.insert(h:Sound b)(i:Nat)(r:List UInt8)(hr:(r.length:Int)<=iC b-4)(hi:i<=bS b 0):
  Sound (sN b i r)/\cZ (sN b i r)=(cZ b).take i++r::(cZ b).drop i:=by
 obtain⟨hs,he,h0,hh⟩:=h.base r hr;rw[<-h0]at hi hh;have L:=Laid.insert hs i r hh hi;refine⟨L.sound,?_⟩;have h2:=hs.len;have h3:=hs.heap;have key:∀x∈bI (jV b r),lN (lay (jV b r) (bS (jV b r) 2-r.length) r) x=lN (jV b r) x:=by
  intro x hx;have:=(hs.fit.pE x hx).1;exact Hu (by omega) x (.inr (by omega))
 unfold sN;rw[L.rcs,dA,fN,CU (by omega),<-he];unfold cZ;rw[gy (λx hx=>key x (fZ hx)),gy (λx hx=>key x (mV hx)),lR,List.map_drop]
def lO:List UInt8:=mD (List.replicate 232 0) 2 232
theorem qg:Sound lO/\cZ lO=[]/\bS lO 0=0/\bS lO 2=232:=by
 have e0:bS lO 0=0:=by decide
 have e2:bS lO 2=232:=by decide
 have es:bI lO=[]:=by unfold bI;rw[e0];rfl
 exact⟨⟨by unfold lO;rw[eO,ez],by omega,by omega,by rw[es];exact Fit.nil _⟩,by unfold cZ;rw[es];rfl,e0,e2⟩
theorem or8(a b:Nat)(ha:a<256)(hb:b<256):bits .or .i64 ((a:Int)*256) (b:Int)=((a*256+b:Nat):Int):=by
 rw[bits_join .i64 32 (by decide) (λn h0 h1=>IntWalk.i64_in n (by omega)) 8 _ _ (by omega) (by omega) (by omega) (by omega) (by omega) (by omega)];omega
theorem dL(s:ByteArray)(k:Nat)(h:k<s.size):s.data.toList.getD k 0=s[k]:=by
 have:k<s.data.toList.length:=by simpa using h
 simp[List.getD,aL this];rfl
theorem eZ(s:ByteArray)(i:Int)(w:World)(h0:0<=i)(h:i+1<s.size)(hs:s.size<=1000000):
  Calls prog 210 #[.string s,.int .i64 i] w λe w'=>e=.returned (.int .i64 (bS s.data.toList i.toNat:Nat))/\Below w.heap.size w w':=by
 obtain⟨k,rfl⟩:=eT h0;rw[gG];have hk:k<s.size:=by omega
 have h:k+1<s.size:=by omega
 have b0:=s[k].toNat_lt;have b1:=s[k+1].toNat_lt;have HV:=xh (show bits .or .i64 ((s[k].toNat:Int)*256) (s[k+1].toNat:Int)=((bS s.data.toList k:Nat):Int)from by
  rw[or8 _ _ (by omega) (by omega)];unfold bS;rw[dL _ _ hk,dL _ _ h])
 have e1:IntKind.i64.wrap ((k:Int)+1)=(k:Int)+1:=IntWalk.i64_in _ (by omega);have e2:(0:Int)<=(k:Int)+1:=by omega
 have e3:((k:Int)+1).toNat=k+1:=by omega
 have e7:(k:Int)+1<(s.size:Int):=by omega
 have e8:(k:Int)<(s.size:Int):=by omega
 have e4:IntKind.i64.wrap (s[k].toNat:Int)=(s[k].toNat:Int):=IntWalk.i64_in _ (by omega);have e5:IntKind.i64.wrap ((s[k].toNat:Int)*256)=(s[k].toNat:Int)*256:=IntWalk.i64_in _ (by omega);have e6:IntKind.i64.wrap (s[k+1].toNat:Int)=(s[k+1].toNat:Int):=IntWalk.i64_in _ (by omega);go_enter func210,ntmps210
 go_wp2
 go_quiet (fail);rw[HV.o]
 go_wp2
 go_ret;exact⟨rfl,dS (Below.refl _ _) _⟩
def sc(l:List Slot):List Value:=l.flatMap λx=>[.int .i64 (x.1:Int),.int .i64 (x.2:Int)]
theorem jW(l:List Slot):(sc l).length=2*l.length:=by
 induction l with
 |nil=>rfl
 |cons x l ih=>simp only[sc,gW]at ih ⊢;simp[ih];omega
theorem nP(l m:List Slot):sc (l++m)=sc l++sc m:=by simp[sc]
theorem UF(l:List Slot)(i:Nat)(hi:i<l.length):(sc l)[i*2]?=some (.int .i64 (l[i].1:Int))/\(sc l)[i*2+1]?=some (.int .i64 (l[i].2:Int)):=by
 induction l generalizing i with
 |nil=>simp at hi
 |cons x l ih=>
  have e:sc (x::l)= .int .i64 (x.1:Int):: .int .i64 (x.2:Int)::sc l:=rfl;rw[e]
  cases i with
  |zero=>exact⟨rfl,rfl⟩
  |succ i=>
   have:=ih i (by simpa using hi);rw[show(i+1)*2=i*2+1+1 by omega,show i*2+1+1+1=(i*2+1)+1+1 by omega];simpa using this
theorem UG(l:List Slot):∀v∈sc l,v.oneCell'=true:=by
 intro v hv;simp only[sc,mU]at hv;obtain⟨x,_,h⟩:=hv;simp at h
 rcases h with rfl|rfl<;>rfl
theorem vR:(prog.info? 271).map (λi=>(i.zero,i.size,i.bytes))=some (some (.agg #[.int .i64 0,.int .i64 0]),2,16):=by kernel_rfl
theorem sO(b:List UInt8)(k:Nat)(h:k<bS b 0):(bI b).take (k+1)=(bI b).take k++[slot b k]:=by
 rw[gC (by rw[da];exact h)];simp[bI]
attribute [local go_sem ↓] bz
theorem kl(s:ByteArray)(w:World)(h4:4+4*bS s.data.toList 0<=s.size)(hs:s.size<=1000000):
  Calls prog 208 #[.string s] w λe w'=> ∃v,e=.returned v/\aT w' 271 2 v (bS s.data.toList 0) (sc (bI s.data.toList))/\Below w.heap.size w w'/\(∀g∈ai v,w.heap.size<=g):=by
 have hn:=zQ s.data.toList 0;have HL:=xh (da s.data.toList);go_enter func208,ntmps208;go_wp2_with fail;refine(eZ s 0 _ (by omega) (by omega) hs).mono ?_;rintro e w1 ⟨rfl,bf⟩;rw[show(0:Int).toNat=0 from rfl];have HS:=xh (show ∀k,k<bS s.data.toList 0->(bI s.data.toList).take (k+1)=(bI s.data.toList).take k++[slot s.data.toList k]from λk hk=>sO _ k hk)
 have HE:=xh (show(bI s.data.toList).take (bS s.data.toList 0)=bI s.data.toList from cy (by rw[da];exact ak _));have HSl:=xh (show ∀k,slot s.data.toList k=(bS s.data.toList (4+4*k),bS s.data.toList (6+4*k))from λk=>rfl);generalize hgn:bS s.data.toList 0=n at *;have HN:=xh hgn;clear hgn;go_wp2_with fail
 go_loopw [3,4,5,8] (λv _ _ i wr=> ∃k:Nat,k<=n/\i=.int .i64 k/\aT wr 271 2 v k (sc ((bI s.data.toList).take k))/\Below w.heap.size w wr/\Hid (∀g∈ai v,w.heap.size<=g)) (λ_ _ _ i _=>n-(intOf i).toNat)
 case atStart=>exact⟨0,aY _,rfl,by rw[jb];exact aT.nil _ _ _,bf,xh (by simp[ai])⟩
 case round=>
  obtain⟨k,hk,rfl,S,O,F⟩:=hrel;obtain⟨A,c,rfl⟩:=au S
  by_cases h:k<n
  .have uV:=xh (HS.o k h);go_wp2_with fail;refine(eZ s _ _ (by omega) (by omega) hs).mono ?_;rintro e w2 ⟨rfl,cA⟩;have S2:=xh (S.below cA);have O2:=xh (aB O cA);clear cA S O;go_wp2_with fail;refine(eZ s _ _ (by omega) (by omega) hs).mono ?_;rintro e w3 ⟨rfl,gh⟩;have S3:=S2.o.below gh;have O3:=xh (aB O2.o gh);clear gh S2 O2;rw[show(4+4*(k:Int)).toNat=4+4*k by omega,show(4+4*(k:Int)+2).toNat=6+4*k by omega]
   obtain⟨i0,hi,kx,ju,kg⟩:=info_parts vR;obtain⟨v',w',ea,S',O',F'⟩:=dk (P:=prog) (S3.alloc (.cells #[.int .i64 (bS s.data.toList (4+4*k):Nat),.int .i64 (bS s.data.toList (6+4*k):Nat)] 271)) 266 266 i0 (.agg #[.int .i64 0,.int .i64 0]) 16 underlying266 hi kx ju kg rfl (by omega)
    ⟨w3.heap.size,0,none⟩ 1 1 [.int .i64 (bS s.data.toList (4+4*k):Nat),.int .i64 (bS s.data.toList (6+4*k):Nat)] rfl (bq (l:=[_,_]) (aJ.new _ _ _) 0 _ (by simp)) (by intro u hu;simp at hu;rcases hu with rfl|rfl<;>rfl) (by unfold maxLen;omega) (by omega)
   have e1:sc ((bI s.data.toList).take k)++[.int .i64 (bS s.data.toList (4+4*k):Nat),.int .i64 (bS s.data.toList (6+4*k):Nat)]=sc ((bI s.data.toList).take (k+1)):=by
    rw[uV.o,nP,HSl.o];rfl
   rw[e1]at S';have EA:=ea;have F2:=xh (show ∀g∈ai v',w.heap.size<=g from λg hg=>(F' g hg).elim (F.o g) (λh=>ar O3.o.size (by simp at h;omega)));have O2:=xh (O3.o.trans ((((ag.refl (ai (.slice A k c)) w3).alloc (.cells #[.int .i64 (bS s.data.toList (4+4*k):Nat),.int .i64 (bS s.data.toList (6+4*k):Nat)] 271)).trans O').aI O3.o.size F.o));have S2:=xh S';clear S3 F' O' S' e1 uV hi kx ju kg ea
   change dP _ _ _ _ _ _=_ at EA
   obtain⟨A2,c2,rfl⟩:=au S2.o;go_wp2_with fail;go_roundw
   case rel=>exact⟨k+1,by omega,by go_num,S2.o,O2.o,F2⟩
   case measure=>simp[intOf];omega
  .have BC:k=n:=by omega
   have H2:=xh BC;have SS:=xh S;clear BC S;go_wp2_with fail;go_ret;refine⟨_,rfl,?_,O,F.o⟩;have:=SS.o
   cases H2.o
   rw[HE.o]at this;rw[HN.o];exact this
variable{w w':World}{e:TypeId}{g n cap:Nat}{l:List Value}{v:Value}{F:List UInt8}
theorem aT.set1(S:aT w e 1 (.slice (some ⟨g,0,none⟩) n cap) n l)(k:Nat)(hk:k<n)(x:Value):aT (w.setCell ⟨g,k,none⟩ x) e 1 (.slice (some ⟨g,0,none⟩) n cap) n (l.set k x):=by
 have hl:l.length=n:=by have:=S.1;omega
 rcases S.2 with⟨h0,_⟩|⟨g',Gr,rest,hv,B,hc,hm⟩
 .cases h0
 .simp only[Value.slice.injEq,Option.some.injEq,Addr.mk.injEq,and_true,true_and]at hv;obtain⟨rfl,rfl⟩:=hv;refine⟨by simp[hl],.inr ⟨g,cap,rest,rfl,?_,by simpa using hc,hm⟩⟩;have:=B.bE k x;rw[tN,yk _ _ (by omega)]at this;exact this
theorem aT.cell(S:aT w e 1 (.slice (some ⟨g,0,none⟩) n cap) n l)(k:Nat)(hk:k<n)(x:Value)(hx:l[k]?=some x):w.cell? ⟨g,k,none⟩=some x/\w.frozen? ⟨g,k,none⟩=false:=by
 have hl:l.length=n:=by have:=S.1;omega
 rcases S.2 with⟨h0,_⟩|⟨g',Gr,rest,hv,B,hc,hm⟩
 .cases h0
 .simp only[Value.slice.injEq,Option.some.injEq,Addr.mk.injEq,and_true,true_and]at hv;obtain⟨rfl,rfl⟩:=hv;exact⟨B.ab (by rw[dj,bF (by omega)];exact hx),B.frozen k (by simp;omega)⟩
def mX(w:World)(v:Value)(F:List UInt8):Prop:=aT w 5 1 v F.length (dI F)
theorem mX.form(S:mX w v F)(h:0<F.length):∃g cap,v=.slice (some ⟨g,0,none⟩) F.length cap/\F.length<=cap:=by
 obtain⟨g,cap,rest,rfl,B,hc,_⟩:=aT.form S h (by omega);exact⟨g,cap,rfl,hc⟩
theorem eA:(prog.info? 5).map (λi=>(i.zero,i.size,i.bytes))=some (some (.int .u8 0),1,1):=by kernel_rfl
theorem jf(S:mX w v F)(i m:Int)(Ge:0<=i)(hi:i+1<F.length)(hF:F.length<=1000000)(Ck:0<=m)(hm:m<65536):
  Calls prog 206 #[v,.int .i64 i,.int .i64 m] w λe w'=>e=.returned (.tuple #[])/\mX w' v (mD F i.toNat m.toNat)/\ag (ai v) w w':=by
 obtain⟨k,rfl⟩:=eT Ge;obtain⟨n,rfl⟩:=eT Ck;obtain⟨g,cap,rfl,vS⟩:=S.form (by omega);have c0:=(aT.cell S k (by omega) (bv F[k]) (by rw[yt,aL (by omega)];rfl));have c1:=(aT.cell S (k+1) (by omega) (bv F[k+1]) (by rw[yt,aL (by omega)];rfl));obtain⟨c0,z0⟩:=c0;obtain⟨c1,z1⟩:=c1
 have HS:=xh (aT.set1 (aT.set1 S k (by omega) (bv (UInt8.ofNat (n / 256)))) (k+1) (by omega) (bv (UInt8.ofNat n)));have HO:=xh (show ag [g] w ((w.setCell ⟨g,k,none⟩ (bv (UInt8.ofNat (n / 256)))).setCell ⟨g,k+1,none⟩ (bv (UInt8.ofNat n)))from((ag.refl _ _).setCell (by simp) _).setCell (by simp) _);clear S;generalize F[k]=x0 at *;generalize F[k+1]=x1 at *;unfold bv at c0 c1;go_enter func206,ntmps206
 go_wp2
 have e0:bv (UInt8.ofNat (n / 256))= .int .u8 ((n:Int) / 256):=by
  unfold bv
  congr 1
  rw[je];omega
 have e1:bv (UInt8.ofNat n)= .int .u8 ((n:Int) % 256):=by
  unfold bv;rfl
 have el:((dI F).set k (bv (UInt8.ofNat (n / 256)))).set (k+1) (bv (UInt8.ofNat n))=dI (mD F k n):=by
  simp[dI,mD]
 have h1:=HS.o;have h2:=HO.o;rw[el]at h1;rw[e0,e1]at h1 h2;clear el e0 e1
 go_end0
 refine⟨rfl,?_,by simpa [ai]using h2⟩;rw[gG,gG];unfold mX;rw[eO];exact h1
theorem oG(n:Nat)(h1:n<=140737488355328)(w:World):
  (Instr.makeSlice 150 (.int .i64 n) (.int .i64 n)).run prog w=.ok (.slice (some ⟨w.heap.size,0,none⟩) n n) (w.alloc (.cells (dI (List.replicate n 0)).toArray 5)):=by
 obtain⟨i0,hi,kx,ju,kg⟩:=info_parts eA;have h:=run_make (P:=prog) w 150 5 i0 (.int .u8 0) underlying150 hi kx .i64 .i64 n n (by omega) (jI _) (by rw[kg];omega) (by omega);rw[h,ju];have e:madeCells (Value.int .u8 0).cells (((n:Int).toNat)*1)=(dI (List.replicate n 0)).toArray:=by
  show madeCells #[Value.int .u8 0] (n*1)=_;rw[Nat.mul_one,ie];simp[dI,bv]
 rw[e];rfl
theorem mX.string(S:mX w v F)(h:0<F.length):(convert 150 9 v).run prog w=.ok (.string ⟨F.toArray⟩) w:=by
 obtain⟨g,cap,rest,rfl,B,_,_⟩:=aT.form S h (by omega);exact cg (P:=prog) w 150 9 5 underlying150 underlying5 underlying9 ⟨g,0,none⟩ F.length cap F rfl (bq B 0 (dI F) (by
  intro j u hu;rw[bg,bF]
  .exact hu
  .exact(aS.1 hu).1))
theorem mX.only{S:List Nat}(B:mX w v F)(ho:ag S w w')(hd:∀g∈ai v,g∉S):mX w' v F:=aT.only B ho hd
theorem mX.below(B:mX w v F)(ho:Below w.heap.size w w'):mX w' v F:=aT.below B ho
theorem mX.new(w:World)(F:List UInt8)(h:F.length<=maxLen):mX (w.alloc (.cells (dI F).toArray 5)) (.slice (some ⟨w.heap.size,0,none⟩) F.length F.length) F:=
 ⟨by simp,.inr ⟨w.heap.size,F.length,[],rfl,by rw[iJ];exact aJ.new _ _ _,by simp,h⟩⟩
theorem l7(w:World):
  Calls prog 163 #[] w λe w'=>e=.returned (.string ⟨lO.toArray⟩)/\Below w.heap.size w w':=by
 have hmk:Hid (∀w':World,(Instr.makeSlice 150 (.int .i64 232) (.int .i64 232)).run prog w'= .ok (.slice (some ⟨w'.heap.size,0,none⟩) 232 232) (w'.alloc (.cells (dI (List.replicate 232 0)).toArray 5))):=xh (λw':World=>oG 232 (by omega) w');have B0:=xh (mX.new w (List.replicate 232 0) (by unfold maxLen;rw[ez];omega));have O0:=xh ((Below.refl w.heap.size w).alloc (ak _) (.cells (dI (List.replicate 232 0)).toArray 5))
 have hl:(List.replicate 232 (0:UInt8)).length=232:=ez;have e1:lO=mD (List.replicate 232 0) 2 232:=rfl;rw[e1];clear e1;generalize List.replicate 232 (0:UInt8)=Z at *;rw[hl]at B0;have HL:=xh hl;clear hl;have hm:=hmk.o;clear hmk;go_enter func163,ntmps163;go_wp2_with fail;generalize w.alloc (.cells (dI Z).toArray 5)=W at *;clear hm;refine(jf B0.o 2 232 (by omega) (by rw[HL.o];omega) (by rw[HL.o];omega) (by omega) (by omega)).mono ?_
 rintro e w1 ⟨rfl,B1,o1⟩;have KS:=xh (B1.string (by rw[eO,HL.o];omega));have O1:=xh (O0.o.trans (o1.aI O0.o.size (by simp[ai])));clear B1 o1;go_wp2_with fail;rw[KS.o];go_wp2_with fail;go_ret;exact⟨rfl,O1.o⟩
variable{b:List UInt8}{k:Nat}
theorem UH{a b:Bool}(h:a=b):Ending.returned (.bool a)= .returned (.bool b):=by rw[h]
theorem Qu(x y:Slot)(w:World)(hx:x.1+x.2<=1000000)(hy:y.1+y.2<=1000000):
  Calls prog 227 #[.agg #[.int .i64 x.1,.int .i64 x.2],.agg #[.int .i64 y.1,.int .i64 y.2]] w λe w'=>e=.returned (.bool (apart x y))/\Below w.heap.size w w':=by
 obtain⟨a,b⟩:=x;obtain⟨c,d⟩:=y;have O:=xh (((Below.refl w.heap.size w).alloc (ak _) (.cells #[.int .i64 a,.int .i64 b] 271)).alloc (by simp) (.cells #[.int .i64 c,.int .i64 d] 271));simp only at hx hy;have HA:=xh (show apart (a,b) (c,d)=(decide (b=0) || (decide (d=0) || (decide (a+b<=c) || decide (c+d<=a))))from rfl);go_enter func227,ntmps227
 go_wp2
 all_goals go_ret
 all_goals
  refine⟨UH ?_,((Below.refl _ _).alloc (ak _) _).alloc (by simp) _⟩;rw[HA.o,Bool.eq_iff_iff];simp
  try omega
theorem vT(hl:b.length=232)(h:¬Sound b):cu b=14:=by
 unfold cu;rw[if_pos hl,if_neg];rw[sM];exact h
theorem LY(hl:b.length=232)(hk:k<bS b 0)(h:¬(bS b 2<=(slot b k).1/\(slot b k).1+(slot b k).2<=232)):cu b=14:=
 vT hl λS=>h (S.fit.pE _ (ay (CR b k hk)))
theorem Hv(hl:b.length=232){j:Nat}(hk:k<bS b 0)(hj:j<k)(h:apart (slot b k) (slot b j)=false):cu b=14:=
 vT hl λS=>by
  have hp:=S.fit.apart;rw[yi]at hp;have h1:=hp j k (by rw[da];omega) (by rw[da];omega) hj;simp only[bI,JN,yJ]at h1;rw[oT,h]at h1
  cases h1
theorem L8(hl:b.length=232)(hh:bS b 2<=232)(h4:4+4*bS b 0<=bS b 2)(hf:Fit (bS b 2) (bI b)):cu b=0:=(eH b).2 ⟨hl,hh,h4,hf⟩
theorem UI{heap:Nat}(hk:k<bS b 0)(hf:Fit heap ((bI b).take k))(hx:heap<=(slot b k).1/\(slot b k).1+(slot b k).2<=232)(ha:∀j,j<k->apart (slot b k) (slot b j)=true):Fit heap ((bI b).take (k+1)):=by
 rw[sO b k hk,Fit.snoc];refine⟨hf,hx,λy hy=>?_⟩;obtain⟨j,hj,rfl⟩:=oq hy;have hj2:j<k:=by simp at hj;omega
 simp only[bI,JO,JN,yJ];exact ha j hj2
theorem oU{w:World}{g n cap:Nat}{l:List Slot}(S:aT w 271 2 (.slice (some ⟨g,0,none⟩) n cap) n (sc l))(k:Nat)(hk:k<l.length):w.cell? ⟨g,k*2,none⟩=some (.int .i64 l[k].1)/\w.cell? ⟨g,k*2+1,none⟩=some (.int .i64 l[k].2):=by
 obtain⟨rest,B,_⟩:=S.tx;obtain⟨h0,h1⟩:=UF l k hk;have hlen:=jW l;exact⟨B.ab (by rw[dj,bF (by omega)];exact h0),B.ab (by rw[dj,bF (by omega)];exact h1)⟩
theorem kY(b:List UInt8)(k:Nat)(h:k<(bI b).length):(bI b)[k]=slot b k:=by simp[bI]
theorem Ma(s:ByteArray)(w:World)(hl:s.size=232)(hh:bS s.data.toList 2<=232)(h4:4+4*bS s.data.toList 0<=bS s.data.toList 2):
  Calls prog 207 #[.string s] w λe w'=>e=.returned (.int .i64 (cu s.data.toList))/\Below w.heap.size w w':=by
 have hL:s.data.toList.length=232:=by simpa using hl
 have HLI:=xh (λ(k:Nat) (hk:k<bS s.data.toList 0) (h:¬(bS s.data.toList 2<=(slot s.data.toList k).1/\(slot s.data.toList k).1+(slot s.data.toList k).2<=232))=>LY hL hk h);have HAP:=xh (λ(k j:Nat) (hk:k<bS s.data.toList 0) (hj:j<k) (h:apart (slot s.data.toList k) (slot s.data.toList j)=false)=>Hv hL hk hj h);have Jr:=xh (λ(hf:Fit (bS s.data.toList 2) (bI s.data.toList))=>L8 hL hh h4 hf)
 have HST:=xh (λ(k:Nat) (hk:k<bS s.data.toList 0) (hf:Fit (bS s.data.toList 2) ((bI s.data.toList).take k)) (hx:bS s.data.toList 2<=(slot s.data.toList k).1/\(slot s.data.toList k).1+(slot s.data.toList k).2<=232) (ha:∀j,j<k->apart (slot s.data.toList k) (slot s.data.toList j)=true)=>UI hk hf hx ha);have HAL:=xh (show(bI s.data.toList).take (bS s.data.toList 0)=bI s.data.toList from cy (by rw[da];exact ak _))
 have HN:=xh (da s.data.toList);have NN:=λk=>zQ s.data.toList k;have Bs:∀k,(slot s.data.toList k).1<65536/\(slot s.data.toList k).2<65536:=λk=>⟨NN _,NN _⟩;have Gn:=xh Bs;have KL:=xh (λw'=>kl s w' (by omega) (by omega));clear NN Bs hL;have hs1:s.size<=232:=by omega
 have hs2:232<=s.size:=by omega
 have hsb:((s.size:Int)==232)=true:=by simp;omega
 have HHL:=xh hl;clear hl;have K0:=xh (λw'=>eZ s 0 w' (by omega) (by omega) (by omega));have K2:=xh (λw'=>eZ s 2 w' (by omega) (by omega) (by omega));simp only[show(0:Int).toNat=0 from rfl,show(2:Int).toNat=2 from rfl]at K0 K2;generalize hq:cu s.data.toList=q at *;have HQ:=xh hq;clear hq;generalize bS s.data.toList 0=n at *;generalize bS s.data.toList 2=heap at *;go_enter func207,ntmps207;go_wp2_with fail;refine(K0.o _).mono ?_
 rintro e w1 ⟨rfl,bf⟩;go_wp2_with fail;refine(K2.o _).mono ?_;rintro e w2 ⟨rfl,cA⟩;go_wp2_with fail;refine(KL.o _).mono ?_;rintro e w3 ⟨v,rfl,S,gh,fr⟩;obtain⟨A,c,rfl⟩:=au S;have S:=xh S;have O3:=xh (aB (aB bf cA) gh);clear bf cA gh fr K0 K2 KL;go_wp2_with fail
 go_loopw [31] (λiv wr=> ∃k:Nat,k<=n/\iv=.int .i64 k/\aT wr 271 2 (.slice A n c) n (sc (bI s.data.toList))/\Below w.heap.size w wr/\Hid (Fit heap ((bI s.data.toList).take k))) (λiv _=>n-(intOf iv).toNat)
 case atStart=>exact⟨0,aY _,rfl,S.o,O3.o,xh (by rw[jb];exact Fit.nil _)⟩
 case round=>
  obtain⟨k,hk,rfl,S,O,F⟩:=hrel
  by_cases h:k<n
  .obtain⟨g,cap,rest,hv,-,vS,-⟩:=S.form (by omega) (by omega);simp only[Value.slice.injEq,true_and]at hv;obtain⟨rfl,rfl⟩:=hv;have ic:=oU S k (by rw[HN.o];exact h);rw[kY]at ic;obtain⟨c0,c1⟩:=ic;have b0:=Gn.o k;have LI:=xh (HLI.o k h);have AP:=xh (λj=>HAP.o k j h);have ST:=xh (HST.o k h F.o);have SS:=xh S;have OO:=xh O;clear S O;generalize slot s.data.toList k=x at *;obtain⟨x0,x1⟩:=x;simp only at b0 c0 c1
   have B8:=xh (aJ.new wr 271 #[.int .i64 x0,.int .i64 x1]);have S8:=xh (SS.o.alloc (.cells #[.int .i64 x0,.int .i64 x1] 271));have O8:=xh (OO.o.alloc OO.o.size (.cells #[.int .i64 x0,.int .i64 x1] 271));have hx:heap<=x0/\x0+x1<=232\/(heap<=x0/\232<x0+x1)\/x0<heap:=by omega
   rcases hx with⟨g1,g2⟩|⟨g1,g2⟩|g1
   .go_wp2_with fail;generalize wr.alloc (.cells #[.int .i64 x0,.int .i64 x1] 271)=W at *;generalize wr.heap.size=z at *
    go_loopw [52] (λjv w4=> ∃j:Nat,j<=k/\jv=.int .i64 j/\aT w4 271 2 (.slice (some ⟨g,0,none⟩) n c) n (sc (bI s.data.toList))/\aJ w4 z 271 #[.int .i64 x0,.int .i64 x1]/\Below w.heap.size w w4/\Hid (∀i,i<j->apart (x0,x1) (slot s.data.toList i)=true)) (λjv _=>k-(intOf jv).toNat)
    case atStart=>exact⟨0,aY _,rfl,S8.o,B8.o,O8.o,xh λi hi=>absurd hi (j9 i)⟩
    case round=>
     obtain⟨j,hj,rfl,S9,B9,O9,HJ⟩:=hrel
     by_cases hjk:j<k
     .have ic:=oU S9 j (by rw[HN.o];omega);rw[kY]at ic;obtain⟨d0,d1⟩:=ic;have b2:=Gn.o j;have hn1:=AP.o j hjk;have HJS:=xh (show apart (x0,x1) (slot s.data.toList j)=true->∀i,i<j+1->apart (x0,x1) (slot s.data.toList i)=true from λe i hi=>by
       rcases eR i j with h|h
       .exact HJ.o i h
       .obtain rfl:i=j:=by omega
        exact e)
      have HN1:=xh hn1;have z0:=B9.ab (i:=0) rfl;have z1:=B9.ab (i:=1) rfl;have zl:=B9.lt;have SS9:=xh S9;have BB9:=xh B9;have OO9:=xh O9;clear S9 B9 O9 hn1 HJ;generalize slot s.data.toList j=y at *;obtain⟨y0,y1⟩:=y;simp only at b2 d0 d1;have KA:=xh (λw'=>Qu (x0,x1) (y0,y1) w' (by show x0+x1<=1000000;omega) (by show y0+y1<=1000000;omega));simp only at KA;go_wp2_with fail;refine(KA.o _).mono ?_;rintro e w5 ⟨rfl,nC⟩
      have nC:=xh (((Below.refl wr.heap.size wr).alloc (ak _) (.cells #[.int .i64 y0,.int .i64 y1] 271)).trans (nC.mono (by simp)))
      cases ha:apart (x0,x1) (y0,y1)
      .have hq:=HN1.o ha;go_wp2_with fail;go_ret;exact⟨by first|rfl|(rw[hq];rfl),aB OO9.o nC.o⟩
      .have HA:=xh ha;clear ha;go_wp2_with fail;go_roundw
       case rel=>exact⟨j+1,by omega,by go_num,SS9.o.below nC.o,BB9.o.below nC.o BB9.o.lt,aB OO9.o nC.o,xh (HJS.o HA.o)⟩
       case measure=>simp[intOf];omega
     .have SS9:=xh S9;have OO9:=xh O9;have hjk2:=xh (show j=k by omega);clear S9 B9 O9;go_wp2_with fail;go_roundw
      case rel=>exact⟨k+1,by omega,by go_num,SS9.o,OO9.o,xh (ST.o ⟨g1,g2⟩ (hjk2.o▸HJ.o))⟩
      case measure=>simp[intOf];omega
   .have hq:=LI.o (by omega);go_wp2_with fail;go_ret;exact⟨by first|rfl|(rw[hq];rfl),O8.o⟩
   .have hq:=LI.o (by omega);go_wp2_with fail;go_ret;exact⟨by first|rfl|(rw[hq];rfl),O8.o⟩
  .have BC:k=n:=by omega
   have H2:=xh BC;have OO:=xh O;have SS:=xh S;clear BC S O;go_wp2_with fail;go_ret;refine⟨?_,OO.o⟩;have hf:=F.o;rw[H2.o,HAL.o]at hf;rw[Jr.o hf];rfl
theorem rh(s:ByteArray)(w:World)(hs:s.size<=1000000):
  Calls prog 207 #[.string s] w λe w'=>e=.returned (.int .i64 (cu s.data.toList))/\Below w.heap.size w w':=by
 by_cases hl:s.size=232
 .by_cases hg:bS s.data.toList 2<=232/\4+4*bS s.data.toList 0<=bS s.data.toList 2
  .exact Ma s w hl hg.1 hg.2
  .have hL:s.data.toList.length=232:=by simpa using hl
   have e1:cu s.data.toList=14:=vT hL λS=>hg ⟨S.heap,S.head⟩;rw[e1];have K0:=xh (λw'=>eZ s 0 w' (by omega) (by omega) (by omega));have K2:=xh (λw'=>eZ s 2 w' (by omega) (by omega) (by omega));simp only[show(0:Int).toNat=0 from rfl,show(2:Int).toNat=2 from rfl]at K0 K2;have b0:=zQ s.data.toList 0;generalize bS s.data.toList 0=n at *;generalize bS s.data.toList 2=heap at *;have hsb:((s.size:Int)==232)=true:=by simp;omega
   have hx:232<heap\/(heap<=232/\heap<4+4*n):=by omega
   clear hl hg e1 hL
   rcases hx with h1|⟨h1,h2⟩
   all_goals
    go_enter func207,ntmps207;go_wp2_with fail;refine(K0.o _).mono ?_;rintro e w1 ⟨rfl,bf⟩;go_wp2_with fail;refine(K2.o _).mono ?_;rintro e w2 ⟨rfl,cA⟩;have O:=xh (aB bf cA);clear bf cA;go_wp2_with fail;go_ret;exact⟨rfl,O.o⟩
 .have e1:cu s.data.toList=6:=by unfold cu;rw[if_neg (by simpa using hl)]
  rw[e1];have hsb:((s.size:Int)==232)=false:=by simp;omega
  clear e1 hl;go_enter func207,ntmps207;go_wp2_with fail;go_ret;exact⟨rfl,Below.refl _ _⟩
def mE(l:List Slot)(k:Nat):Int:=228-((((l.take k).map λx=>4+x.2).sum:Nat):Int)
theorem Hw(l:List Slot)(k:Nat)(h:k<l.length):mE l (k+1)=mE l k-(4+(l[k].2:Int)):=by
 unfold mE;rw[gC h,dA,yl];simp;omega
theorem Mb(b:List UInt8):mE (bI b) (bI b).length=iC b:=by unfold mE iC;rw[fw]
def uC(b:List UInt8):Int:=if cu b=0 then iC b else 0
theorem Hx(s:ByteArray)(w:World)(hs:s.size<=1000000):
  Calls prog 209 #[.string s] w λe w'=>e=.returned (.int .i64 (uC s.data.toList))/\Below w.heap.size w w':=by
 have KC:=xh (rh s w hs)
 by_cases h:cu s.data.toList=0
 .have e1:uC s.data.toList=iC s.data.toList:=by unfold uC;rw[if_pos h]
  have hS:=(eH _).1 h;have Gh:s.size=232:=by have:=hS.len;simpa using this
  have h4:=hS.head;have h5:=hS.heap;rw[e1];rw[h]at KC;have KL:=xh (λw'=>kl s w' (by omega) hs);have HN:=xh (da s.data.toList);have HA:=xh (Mb s.data.toList);have HX:=xh (show ∀k,(mE (bI s.data.toList) k<=228/\∀h:k<(bI s.data.toList).length,(bI s.data.toList)[k].2<65536)from λk=>⟨by unfold mE;omega,λh=>by rw[kY];exact zQ _ _⟩)
  have HLO:=xh (show ∀k,k<=bS s.data.toList 0-> -1000000<=mE (bI s.data.toList) k from λk hk=>by
   have hsum:=CT _ _ hS.fit hS.heap;have:((((bI s.data.toList).take k).map λx=>4+x.2).sum)<=4*(bI s.data.toList).length+vQ (bI s.data.toList):=by
    generalize bI s.data.toList=l;unfold vQ
    induction l generalizing k with
    |nil=>simp
    |cons x l ih=>
     cases k with
     |zero=>simp
     |succ k=>
      have:=ih k;simp only[ox,fN,kS,fI];omega
   rw[da]at this;unfold mE;omega)
  clear e1 h hS;generalize iC s.data.toList=q at *;generalize bS s.data.toList 0=n at *;go_enter func209,ntmps209;go_wp2_with fail;refine KC.o.mono ?_;rintro e w1 ⟨rfl,bf⟩;have bf:=xh bf;go_wp2_with fail;refine(KL.o _).mono ?_;rintro e w3 ⟨v,rfl,S,gh,fr⟩;obtain⟨A,c,rfl⟩:=au S;have S:=xh S;have O3:=xh (aB bf.o gh);clear gh fr KL bf;go_wp2_with fail
  go_loopw [3,12] (λrv iv wr=> ∃k:Nat,k<=n/\iv=.int .i64 k/\rv=.int .i64 (mE (bI s.data.toList) k)/\aT wr 271 2 (.slice A n c) n (sc (bI s.data.toList))/\Below w.heap.size w wr) (λ_ iv _=>n-(intOf iv).toNat)
  case atStart=>exact⟨0,aY _,rfl,rfl,S.o,O3.o⟩
  case round=>
   obtain⟨k,hk,rfl,rfl,S,O⟩:=hrel;have UJ:=(HX.o k).1;have BU:=HLO.o k hk
   by_cases h:k<n
   .obtain⟨g,cap,rest,hv,-,vS,-⟩:=S.form (by omega) (by omega);simp only[Value.slice.injEq,true_and]at hv;obtain⟨rfl,rfl⟩:=hv;have jx:k<(bI s.data.toList).length:=by rw[HN.o];exact h
    obtain⟨c0,c1⟩:=oU S k jx;have hb:=(HX.o k).2 jx;have HST:=xh (Hw _ k jx);generalize (bI s.data.toList)[k]=x at *;obtain⟨x0,x1⟩:=x;simp only at hb c0 c1 HST;have S8:=xh (S.alloc (.cells #[.int .i64 x0,.int .i64 x1] 271));have O8:=xh (O.alloc O.size (.cells #[.int .i64 x0,.int .i64 x1] 271));clear S O jx;generalize mE (bI s.data.toList) k=r at *;go_wp2_with fail;go_roundw
    case rel=>exact⟨k+1,by omega,by go_num,by rw[HST.o],S8.o,O8.o⟩
    case measure=>simp[intOf];omega
   .have BC:=xh (show k=n by omega);have OO:=xh O;clear S O;go_wp2_with fail;go_ret;refine⟨?_,OO.o⟩;rw[<-HA.o,HN.o,<-BC.o];rfl
 .have e1:uC s.data.toList=0:=by unfold uC;rw[if_neg h]
  have hb:(cu s.data.toList==0)=false:=by simpa using h
  rw[e1];clear e1 h;generalize cu s.data.toList=q at *;go_enter func209,ntmps209;go_wp2_with fail;refine KC.o.mono ?_;rintro e w1 ⟨rfl,bf⟩;have bf:=xh bf;go_wp2_with fail;go_ret;exact⟨rfl,bf.o⟩
theorem oV(s:ByteArray)(a b:Nat):s.extract a (a+b)=⟨((s.data.toList.drop a).take b).toArray⟩:=by
 apply mr;apply rP.1;rw[Jy,RM,JH];simp
theorem Mc(s:ByteArray)(x:Slot)(w:World)(hx:x.1+x.2<=s.size)(hs:s.size<=1000000):
  Calls prog 215 #[.string s,.agg #[.int .i64 x.1,.int .i64 x.2]] w λe w'=>e=.returned (.string ⟨(lN s.data.toList x).toArray⟩)/\Below w.heap.size w w':=by
 obtain⟨a,b⟩:=x;simp only at hx;have HE:=xh (oV s a b);go_enter func215,ntmps215
 go_wp2
 go_ret;refine⟨?_,(Below.refl _ _).alloc (ak _) _⟩;show Ending.returned (.string (s.extract a (a+b)))=_;rw[HE.o];rfl
def dK(b:List UInt8)(i:Int):List UInt8×Int:=if cu b=0 then(if 0<=i/\i<(bS b 0:Int)then(lN b (slot b i.toNat),0)else([],3))else([],cu b)
attribute [local go_sem ↓] bz
variable{w:World}{e:TypeId}{size n:Nat}{v:Value}{l:List Value}
theorem vU(h:aT w e size v n l):∀g∈ai v,∃cs,aJ w g e cs:=by
 rcases h.2 with⟨rfl,_⟩|⟨g,cap,rest,rfl,B,_⟩
 .simp[ai]
 .intro x hx;simp[ai]at hx;subst hx;exact⟨_,B⟩
theorem cU{e':TypeId}{size' n':Nat}{v':Value}{l':List Value}(h:aT w e size v n l)(h':aT w e' size' v' n' l')(ff:e≠e'):∀g∈ai v,g∉ai v':=by
 intro g hg hg';obtain⟨_,B⟩:=vU h g hg;obtain⟨_,B'⟩:=vU h' g hg';exact B.k7 B' ff rfl
def strs(l:List (List UInt8)):List Value:=l.map λr=> .string ⟨r.toArray⟩
theorem C9(l:List (List UInt8))(r:List UInt8):strs l++[.string ⟨r.toArray⟩]=strs (l++[r]):=by simp[strs]
@[simp] theorem xy(l:List (List UInt8)):(strs l).length=l.length:=by simp[strs]
theorem xA:(prog.info? 9).map (λi=>(i.zero,i.size,i.bytes))=some (some (.string .empty),1,16):=by kernel_rfl
theorem vV(b:List UInt8)(k:Nat)(h:k<bS b 0):(cZ b).take (k+1)=(cZ b).take k++[lN b (slot b k)]:=by
 unfold cZ;rw[<-lR,sO b k h,dA,lR];rfl
def lX(s:ByteArray)(w:World)(e:Ending)(w':World):Prop:=
 ∃v,e=.returned (.tuple #[v,.int .i64 (cu s.data.toList)])/\Below w.heap.size w w'/\(∀g∈ai v,w.heap.size<=g)/\
  ((cu s.data.toList=0/\aT w' 9 1 v (bS s.data.toList 0) (strs (cZ s.data.toList)))\/(cu s.data.toList≠0/\v=.slice none 0 0))
theorem m8(s:ByteArray)(w:World)(hs:s.size<=1000000):
  Calls prog 169 #[.string s] w (lX s w):=by
 have KC:=xh (rh s w hs)
 by_cases h:cu s.data.toList=0
 .have hS:=(eH _).1 h;have Gh:s.size=232:=by have:=hS.len;simpa using this
  have h4:=hS.head;have h5:=hS.heap;rw[h]at KC;have HC:=xh h;have KL:=xh (λw'=>kl s w' (by omega) hs);have HN:=xh (da s.data.toList);have HG:=xh (kY s.data.toList);have HT:=xh (vV s.data.toList);have HF:=xh (λk (hk:k<bS s.data.toList 0)=>hS.fit.pE _ (ay (CR s.data.toList k hk)))
  have HA:=xh (show(cZ s.data.toList).take (bS s.data.toList 0)=cZ s.data.toList from cy (by rw[cV];exact ak _));clear hS h;generalize hn:bS s.data.toList 0=n at *;have HN0:=xh hn;clear hn;go_enter func169,ntmps169;go_wp2_with fail;refine KC.o.mono ?_;rintro e w1 ⟨rfl,bf⟩;have bf:=xh bf;go_wp2_with fail;refine(KL.o _).mono ?_;rintro e w3 ⟨v,rfl,S,gh,fr⟩;obtain⟨A,c,rfl⟩:=au S;have S:=xh S
  have O3:=xh (aB bf.o gh);have FR:=xh (show ∀x∈ai (.slice A n c),w.heap.size<=x from λx hx=>ar bf.o.size (fr x hx));clear gh fr KL bf;go_wp2_with fail
  go_loopw [5,16] (λv iv wr=> ∃k:Nat,k<=n/\iv=.int .i64 k/\aT wr 9 1 v k (strs ((cZ s.data.toList).take k))/\aT wr 271 2 (.slice A n c) n (sc (bI s.data.toList))/\Below w.heap.size w wr/\Hid (∀g∈ai v,w.heap.size<=g)) (λ_ iv _=>n-(intOf iv).toNat)
  case atStart=>exact⟨0,aY _,rfl,by rw[jb];exact aT.nil _ _ _,S.o,O3.o,xh (by simp[ai])⟩
  case round=>
   obtain⟨k,hk,rfl,T,S,O,F⟩:=hrel;obtain⟨TA,tc,rfl⟩:=au T
   by_cases h:k<n
   .obtain⟨g,cap,rest,hv,-,vS,-⟩:=S.form (by omega) (by omega);simp only[Value.slice.injEq,true_and]at hv;obtain⟨rfl,rfl⟩:=hv;have jx:k<(bI s.data.toList).length:=by rw[HN.o];exact h
    obtain⟨c0,c1⟩:=oU S k jx;rw[HG.o k jx]at c0 c1;have hf:=HF.o k h;have KR:=xh (λw'=>Mc s (slot s.data.toList k) w' (by omega) hs);have HTk:=xh (HT.o k (HN0.o▸h));generalize slot s.data.toList k=x at *;obtain⟨x0,x1⟩:=x;simp only at hf c0 c1 KR;have O8:=xh (((Below.refl wr.heap.size wr).alloc (ak _) (.cells #[.int .i64 x0,.int .i64 x1] 271)));have OO:=xh O;have SS:=xh S;have TT:=xh T;clear S T O;go_wp2_with fail
    refine(KR.o _).mono ?_;rintro e w4 ⟨rfl,jw⟩;have jw:=aB O8.o jw;have T4:=TT.o.below jw;have S4:=SS.o.below jw;have O4:=xh (aB OO.o jw);generalize lN s.data.toList (x0,x1)=r at *;obtain⟨v',w5,ea,T5,o5,F5⟩:=cQ (P:=prog) T4 123 123 (.string .empty) 16 underlying123 xA rfl (.string ⟨r.toArray⟩) rfl (by unfold maxLen;omega) (by omega);rw[C9,<-HTk.o]at T5;have S5:=xh (S4.only o5 (cU S4 T4 (by decide)))
    have F6:=xh (show ∀g∈ai v',w.heap.size<=g from λg hg=>(F5 g hg).elim (F.o g) (λh=>ar O4.o.size h));have O5:=xh (O4.o.trans (o5.aI O4.o.size F.o));obtain⟨VA,vc,rfl⟩:=au T5;have T5:=xh T5;clear jw T4 S4 o5 F5 SS TT OO;go_wp2_with fail;go_roundw
    case rel=>exact⟨k+1,by omega,by go_num,T5.o,S5.o,O5.o,F6⟩
    case measure=>simp[intOf];omega
   .have BC:=xh (show k=n by omega);have OO:=xh O;have TT:=xh T;clear S O T;go_wp2_with fail;go_ret2;refine⟨_,by rw[HC.o];rfl,OO.o,F.o,.inl ⟨HC.o,?_⟩⟩;have h1:=TT.o
    cases BC.o
    rw[HA.o]at h1;rw[HN0.o];exact h1
 .have HC:=xh h;have hb:(cu s.data.toList==0)=false:=by simpa using h
  clear h;generalize hq:cu s.data.toList=q at *;have HQ:=xh hq;clear hq;go_enter func169,ntmps169;go_wp2_with fail;refine KC.o.mono ?_;rintro e w1 ⟨rfl,bf⟩;have bf:=xh bf;go_wp2_with fail;go_ret2;exact⟨_,by rw[HQ.o];rfl,bf.o,by simp[ai],.inr ⟨by rw[HQ.o];exact HC.o,rfl⟩⟩
end Sl
namespace Sl
open Go.RowKit
variable{w w':World}{v:Value}{n:Nat}{l:List Slot}{F:List UInt8}
def sP(w:World)(v:Value)(l:List Slot):Prop:=
 ∃A c,v=.slice A l.length c/\(0<l.length->∃g cs,A=some ⟨g,0,none⟩/\aJ w g 271 cs/\∀(j:Nat) (u:Value),(sc l)[j]?=some u->cs[j]?=some u)
theorem sP.of(S:aT w 271 2 v n (sc l)):sP w v l:=by
 have hl:=S.1;rw[jW]at hl;obtain rfl:n=l.length:=by omega
 obtain⟨A,c,rfl⟩:=au S;refine⟨A,c,rfl,λh=>?_⟩;obtain⟨g,cap,rest,hv,B,_,_⟩:=S.form h (by omega);simp only[Value.slice.injEq,true_and]at hv;obtain⟨rfl,rfl⟩:=hv;exact⟨g,_,rfl,B,λj u hu=>by rw[dj,bF (aS.1 hu).1];exact hu⟩
theorem sP.only{S:List Nat}(h:sP w v l)(ho:ag S w w')(hd:∀g cs,aJ w g 271 cs->g∉S):sP w' v l:=by
 obtain⟨A,c,rfl,h⟩:=h;refine⟨A,c,rfl,λhl=>?_⟩;obtain⟨g,cs,rfl,B,hc⟩:=h hl;exact⟨g,cs,rfl,B.only ho (hd g cs B),hc⟩
theorem sP.below(h:sP w v l)(hb:Below w.heap.size w w'):sP w' v l:=h.only (S:=[]) (.aj hb) (by simp)
theorem Qv(B:mX w v F):∀g cs,aJ w g 271 cs->g∉ai v:=by
 intro g cs hg hm;obtain⟨_,B'⟩:=vU B g hm;exact hg.k7 B' (by decide) rfl
theorem sP.cells{A:Option Addr}{c:Nat}(h:sP w (.slice A n c) l)(k:Nat)(hk:k<l.length):∃g,A=some ⟨g,0,none⟩/\w.cell? ⟨g,k*2,none⟩=some (.int .i64 l[k].1)/\w.cell? ⟨g,k*2+1,none⟩=some (.int .i64 l[k].2):=by
 obtain⟨A',c',hv,h⟩:=h;simp only[Value.slice.injEq]at hv;obtain⟨rfl,rfl,rfl⟩:=hv;obtain⟨g,cs,rfl,B,hc⟩:=h (by omega);obtain⟨h0,h1⟩:=UF l k hk;exact⟨g,rfl,B.ab (hc _ _ h0),B.ab (hc _ _ h1)⟩
theorem zV{vb vl:Value}(B:mX w vb F)(S:sP w vl l)(heap:Int)(hF:F.length=232)(hl:4+4*l.length<=232)(hh0:0<=heap)(hh:heap<65536)(hx:∀x∈l,x.1<65536/\x.2<65536):
  Calls prog 212 #[vb,vl,.int .i64 heap] w λe w'=>e=.returned (.string ⟨(kF F l heap.toNat).toArray⟩)/\ag (ai vb) w w':=by
 obtain⟨h,rfl⟩:=eT hh0;rw[gG];obtain⟨A,c,rfl,-⟩:=id S;have SS:=xh S;have Pu:=xh (kX F l h);have HX:=xh (show ∀k (hk:k<l.length),l[k].1<65536/\l[k].2<65536 from λk hk=>hx _ (jJ hk));have HST:=xh (show ∀k (hk:k<l.length),gZ F l h (k+1)=mD (mD (gZ F l h k) (4+4*k) l[k].1) (6+4*k) l[k].2 from λk hk=>by
  rw[gZ];simp[List.getD,aL hk])
 have H0:=xh (show gZ F l h 0=mD (mD F 0 l.length) 2 h from rfl);have HW:=xh (show kF F l h=gZ F l h l.length from rfl);have K0:=xh (jf B 0 l.length (by omega) (by omega) (by omega) (by omega) (by omega));have AP:=xh (λ(w':World) (F':List UInt8) (B':mX w' vb F')=>Qv B');have BB:=xh B;have HFF:=xh hF;clear S B hx hF;go_enter func212,ntmps212;go_wp2_with fail;refine K0.o.mono ?_;rintro e w1 ⟨rfl,B1,o1⟩
 have S1:=xh (SS.o.only o1 (AP.o _ _ BB.o));have O1:=xh o1;have K2:=xh (jf B1 2 h (by omega) (by rw[eO,HFF.o];omega) (by rw[eO,HFF.o];omega) (by omega) (by omega));have BB1:=xh B1;clear B1 o1 K0 SS;go_wp2_with fail;refine K2.o.mono ?_;rintro e w2 ⟨rfl,B2,o2⟩;have S2:=xh (S1.o.only o2 (AP.o _ _ BB1.o));have O2:=xh (O1.o.trans o2)
 rw[show(2:Int).toNat=2 from rfl,show(0:Int).toNat=0 from rfl,gG,gG,<-H0.o]at B2;have BB2:=xh B2;clear B2 o2 K2 O1 S1 BB1;go_wp2_with fail
 go_loopw [18] (λiv wr=> ∃k:Nat,k<=l.length/\iv=.int .i64 k/\mX wr vb (gZ F l h k)/\sP wr (.slice A l.length c) l/\ag (ai vb) w wr) (λiv _=>l.length-(intOf iv).toNat)
 case atStart=>exact⟨0,aY _,rfl,BB2.o,S2.o,O2.o⟩
 case round=>
  obtain⟨k,hk,rfl,B,S,O⟩:=hrel
  by_cases jx:k<l.length
  .obtain⟨g,rfl,c0,c1⟩:=S.cells k jx;have hx:=HX.o k jx;have HSTk:=xh (HST.o k jx);have hkl2:(k:Int)<(l.length:Int):=by omega
   generalize l[k]=x at *;obtain⟨x0,x1⟩:=x;simp only at hx c0 c1 HSTk;have b8:=(Below.refl wr.heap.size wr).alloc (ak _) (.cells #[.int .i64 x0,.int .i64 x1] 271);have B8:=xh (B.below b8);have S8:=xh (S.below b8);have O8:=xh (O.trans (.aj b8));have Z8:=xh (aJ.new wr 271 #[.int .i64 x0,.int .i64 x1]);have K3:=xh (jf B8.o (4+4*k) x0 (by omega) (by rw[Pu.o,HFF.o];omega) (by rw[Pu.o,HFF.o];omega) (by omega) (by omega));clear b8 B S O
   go_wp2_with fail;generalize wr.alloc (.cells #[.int .i64 x0,.int .i64 x1] 271)=W at *;generalize wr.heap.size=z at *;refine K3.o.mono ?_;rintro e w3 ⟨rfl,B3,o3⟩;have S3:=xh (S8.o.only o3 (AP.o _ _ B8.o));have O3:=xh (O8.o.trans o3);have Z3:=xh (Z8.o.only o3 (AP.o _ _ B8.o _ _ Z8.o));have z1:=Z3.o.ab (i:=1) rfl
   have K4:=xh (jf B3 (4+4*k+2) x1 (by omega) (by rw[eO,Pu.o,HFF.o];omega) (by rw[eO,Pu.o,HFF.o];omega) (by omega) (by omega));have B3:=xh B3;clear o3 K3 B8 S8 O8 Z8 c0 c1;go_wp2_with fail;refine K4.o.mono ?_;rintro e w4 ⟨rfl,B4,o4⟩;have S4:=xh (S3.o.only o4 (AP.o _ _ B3.o));have O4:=xh (O3.o.trans o4)
   rw[show(4+4*(k:Int)).toNat=4+4*k by omega,show(4+4*(k:Int)+2).toNat=6+4*k by omega,gG,gG,<-HSTk.o]at B4;have B4:=xh B4;clear o4 K4 S3 O3 Z3 z1;go_wp2_with fail;go_roundw
   case rel=>exact⟨k+1,by omega,by go_num,B4.o,S4.o,O4.o⟩
   case measure=>simp[intOf];omega
  .have BC:=xh (show k=l.length by omega);have KS:=xh (B.string (by rw[Pu.o,HFF.o];omega));have OO:=xh O;clear B S O;go_wp2_with fail;rw[KS.o];go_wp2_with fail;go_ret;refine⟨?_,OO.o⟩;rw[HW.o,<-BC.o];rfl
attribute [local go_sem ↓] bz
variable{l:List Value}{w:World}{g n:Nat}{F b:List UInt8}{v:Value}
theorem oF:(prog.info? 5).map (·.size)=some 1:=by kernel_rfl
theorem NR(F:List UInt8)(o:Nat):lay F o []=F:=by simp[lay]
theorem Md{r c:List Value}{o:Nat}(h:o+c.length<=l.length):putAt (l++r) o c=putAt l o c++r:=by
 unfold putAt;rw[lT (by omega),r9 h];simp
theorem qh{cap:Nat}(B:mX w (.slice (some ⟨g,0,none⟩) F.length cap) F)(o oa yM:Nat)(s:ByteArray)(ho:o+s.size<=F.length)(hoa:oa=o\/(s.size=0/\oa<=F.length))(tW:Nat)(hd:tW=F.length-o):
  ∃w',(Builtin.copy_ #[150,9] 3 #[.slice (some ⟨g,oa,none⟩) tW yM,.string s]).run prog w=.ok (goInt s.size) w'/\mX w' (.slice (some ⟨g,0,none⟩) F.length cap) (lay F o s.data.toList)/\ag [g] w w':=by
 obtain⟨rest,BB,hc,_,hm⟩:=aT.tx B;have hl:(dI F).length=F.length:=jK F;have Bs:s.data.toList.length=s.size:=by simp
 obtain⟨w',e,B',o'⟩:=mW (P:=prog) BB 150 9 3 5 oa tW yM s s.size underlying150 oF (by rw[hd];exact(oC (by omega)).symm) (by simp;omega);refine⟨w',e,?_,o'⟩;rw[cy (by omega),Md (by simp;omega),ua]at B';have el:lay F oa s.data.toList=lay F o s.data.toList:=by
  rcases hoa with rfl|⟨h0,_⟩
  .rfl
  .have:s.data.toList=[]:=lK (by omega);rw[this,NR,NR]
 rw[el]at B';have tA:(lay F o s.data.toList).length=F.length:=iO (by omega);unfold mX;rw[tA];exact⟨by simp[tA],.inr ⟨g,cap,rest,rfl,B',by simp[tA];simpa using hc,hm⟩⟩
theorem Hy{l:List Slot}(S:aT w 271 2 v n (sc l))(a b:Nat)(hn:n<=1000000):
  ∃v' w',dP prog 266 266 (w.alloc (.cells #[.int .i64 a,.int .i64 b] 271)) v (.slice (some ⟨w.heap.size,0,none⟩) 1 1)= .ok v' w'/\aT w' 271 2 v' (n+1) (sc (l++[(a,b)]))/\ag (ai v) w w'/\(∀g∈ai v',g∈ai v\/w.heap.size<=g):=by
 obtain⟨i0,hi,kx,ju,kg⟩:=info_parts vR;obtain⟨v',w',ea,S',O',F'⟩:=dk (P:=prog) (S.alloc (.cells #[.int .i64 a,.int .i64 b] 271)) 266 266 i0 (.agg #[.int .i64 0,.int .i64 0]) 16 underlying266 hi kx ju kg rfl (by omega)
  ⟨w.heap.size,0,none⟩ 1 1 [.int .i64 a,.int .i64 b] rfl (bq (l:=[_,_]) (aJ.new _ _ _) 0 _ (by simp)) (by intro u hu;simp at hu;rcases hu with rfl|rfl<;>rfl) (by unfold maxLen;omega) (by omega)
 rw[show sc l++[.int .i64 (a:Int),.int .i64 (b:Int)]=sc (l++[(a,b)])from by rw[nP];rfl]at S';exact⟨v',w',ea,S',((ag.refl _ _).alloc _).aO O' (λx hx _=>hx),λg hg=>(F' g hg).imp id (λh=>by simp at h;omega)⟩
theorem uD{c:Nat}{e:TypeId}{size m:Nat}(h:aT w e size v m l)(B:mX w (.slice (some ⟨g,0,none⟩) n c) F)(ff:e≠5):∀x∈ai v,x∉[g]:=by
 have:=cU h B ff;simpa [ai]using this
def fD(b:List UInt8)(k:Nat):rK:=((cZ b).take k).foldl rK.add CY
theorem Hz(b:List UInt8)(k:Nat)(h:k<bS b 0):fD b (k+1)=(fD b k).add (lN b (slot b k)):=by
 unfold fD;rw[vV b k h,List.foldl_append];rfl
theorem zW(b:List UInt8):fD b (bS b 0)=rU (cZ b):=by
 unfold fD rU;rw[cy (by rw[cV];exact ak _)]
theorem xB(l:List Nat):∀k,(l.take k).sum<=l.sum:=by
 induction l with
 |nil=>intro k;simp
 |cons x l ih=>
  intro k
  cases k with
  |zero=>simp
  |succ k=>simp only[ox,kS];have:=ih k;omega
theorem vW(h:Sound b)(k:Nat):(fD b k).Ok ((cZ b).take k):=by
 refine zT _ ?_;rw[lR];have:=xB ((cZ b).map List.length) k;have:=h.sum;omega
theorem Ia(h:Sound b)(k:Nat)(hk:k<bS b 0):(lN b (slot b k)).length<=(fD b k).heap:=by
 have h1:=(vW h k).heap;have h2:=(vW h (k+1)).heap;rw[vV b k hk,dA,yl]at h2;simp only[fN,qI,kS,List.sum_nil]at h2;omega
def ly(b:List UInt8):List UInt8×Int:=if cu b=0 then(gR b,0)else([],cu b)
theorem Ib(s:ByteArray)(w:World)(hs:s.size<=1000000):
  Calls prog 211 #[.string s] w λe w'=>e=.returned (.tuple #[.string ⟨(ly s.data.toList).1.toArray⟩,.int .i64 (ly s.data.toList).2])/\Below w.heap.size w w':=by
 have KA:=xh (m8 s w hs)
 by_cases h:cu s.data.toList=0
 .have hS:=(eH _).1 h;have e1:ly s.data.toList=(gR s.data.toList,0):=by unfold ly;rw[if_pos h]
  rw[e1];clear e1;have Gh:s.size=232:=by have:=hS.len;simpa using this
  have h4:=hS.head;have h5:=hS.heap;have HC:=xh h;have hlist:(cZ s.data.toList).length=bS s.data.toList 0:=cV _;have HGET:=xh (show ∀k,k<bS s.data.toList 0->(strs (cZ s.data.toList))[k]?=some (.string ⟨(lN s.data.toList (slot s.data.toList k)).toArray⟩)from λk hk=>by
   simp[strs,cZ,bI,hk])
  have HSU:=xh (Hz s.data.toList);have Jr:=xh (λk=>vW hS k);have HRM:=xh (λk hk=>Ia hS k hk);have HCF:=xh (show gR s.data.toList=kF (fD s.data.toList (bS s.data.toList 0)).o (fD s.data.toList (bS s.data.toList 0)).to (fD s.data.toList (bS s.data.toList 0)).heap from by rw[zW];rfl);have HLA:=xh hS.comp;have HAL:=xh (zW s.data.toList)
  have H0:=xh (show fD s.data.toList 0=CY from rfl);clear h hS hlist Gh;generalize hn:bS s.data.toList 0=n at *;have HN0:=xh hn;clear hn;have hmk:Hid (∀w':World,(Instr.makeSlice 150 (.int .i64 232) (.int .i64 232)).run prog w'= .ok (.slice (some ⟨w'.heap.size,0,none⟩) 232 232) (w'.alloc (.cells (dI (List.replicate 232 0)).toArray 5))):=xh (λw':World=>oG 232 (by omega) w');have HZ:=xh (show CY=⟨List.replicate 232 0,[],232⟩from rfl)
  have HZL:=xh (show(List.replicate 232 (0:UInt8)).length=232 from ez);generalize List.replicate 232 (0:UInt8)=Z at *;go_enter func211,ntmps211;go_wp2_with fail;refine KA.o.mono ?_;rintro e w1 ⟨v,rfl,bf,fr,hv⟩
  rcases hv with⟨-,T⟩|⟨ff,-⟩
  .rw[HC.o];rw[HN0.o]at T;obtain⟨A,c,rfl⟩:=au T;have hm:=hmk.o;have B0:=xh (mX.new w1 Z (by rw[HZL.o];unfold maxLen;omega));rw[HZL.o]at B0;have b0:=(Below.refl w1.heap.size w1).alloc (ak _) (.cells (dI Z).toArray 5);have T0:=xh (T.below b0);have O0:=xh (aB bf b0);have hg:=bf.size;clear b0 T bf fr hmk KA;go_wp2_with fail;generalize w1.alloc (.cells (dI Z).toArray 5)=W at *;generalize w1.heap.size=g at *;clear hm
   go_loopw [7,8,22] (λv hv iv wr=> ∃k:Nat,k<=n/\iv=.int .i64 k/\hv=.int .i64 (fD s.data.toList k).heap/\mX wr (.slice (some ⟨g,0,none⟩) 232 232) (fD s.data.toList k).o/\aT wr 271 2 v k (sc (fD s.data.toList k).to)/\aT wr 9 1 (.slice A n c) n (strs (cZ s.data.toList))/\Below w.heap.size w wr/\Hid (∀g∈ai v,w.heap.size<=g)) (λ_ _ iv _=>n-(intOf iv).toNat)
   case atStart=>exact⟨0,aY _,rfl,by rw[H0.o];rfl,by rw[H0.o,HZ.o];exact B0.o,by rw[H0.o];exact aT.nil _ _ _,T0.o,O0.o,xh (by simp[ai])⟩
   case round=>
    obtain⟨k,hk,rfl,rfl,B,S,T,O,F⟩:=hrel;obtain⟨SA,cS,rfl⟩:=au S;have BV:=(Jr.o k).len;have hsum:=(Jr.o k).heap
    by_cases h:k<n
    .obtain⟨gT,cT,restT,hv,BT,vS,-⟩:=T.form (by omega) (by omega);simp only[Value.slice.injEq,true_and]at hv;obtain⟨rfl,rfl⟩:=hv;have ck:wr.cell? ⟨gT,k,none⟩=some (.string ⟨(lN s.data.toList (slot s.data.toList k)).toArray⟩):=BT.ab (by
      have h1:=HGET.o k h;rw[dj,bF (aS.1 h1).1];exact h1)
     have hrm:=HRM.o k h;have HS:=xh (HSU.o k h);have TT:=xh T;have OO:=xh O;have SS:=xh S;clear T O S BT;generalize lN s.data.toList (slot s.data.toList k)=r at *;have HCk:=xh (show fD s.data.toList (k+1)=⟨lay (fD s.data.toList k).o ((fD s.data.toList k).heap-r.length) r,(fD s.data.toList k).to++[((fD s.data.toList k).heap-r.length,r.length)],(fD s.data.toList k).heap-r.length⟩from HS.o);generalize fD s.data.toList k=C at *
     obtain⟨out,to,heap⟩:=C;simp only at hrm B HCk SS BV hsum;have hhp:heap<=232:=by omega
     clear hsum;obtain⟨R,rfl⟩:∃R:ByteArray,R.data.toList=r:=⟨⟨r.toArray⟩,by simp⟩;have bG:(⟨R.data.toList.toArray⟩:ByteArray)=R:=by simp
     have hRl:R.data.toList.length=R.size:=by simp
     rw[bG]at ck;rw[hRl]at hrm HCk;obtain⟨h',rfl⟩:∃h',heap=h'+R.size:=⟨heap-R.size,by omega⟩;rw[oy]at HCk;have HB:=xh B;rw[<-BV]at B;have KCP:=xh (λ(oa:Nat) (hoa:oa=h'\/(R.size=0/\oa<=232)) (yM:Nat)=>qh B h' oa yM R (by omega) (by rw[BV];exact hoa) (232-h') (by omega));rw[BV]at KCP;clear B BV bG hRl HS;have NS:=xh (uD SS.o HB.o (by decide));have NT:=xh (uD TT.o HB.o (by decide))
     have KX:=xh (show ∃(oa dc:Nat) (w5:World),((h'=232/\oa=0/\dc=0)\/(h'≠232/\oa=h'/\dc=232-h'))/\(Builtin.copy_ #[150,9] 3 #[.slice (some ⟨g,oa,none⟩) (232-h') dc,.string R]).run prog wr=.ok (goInt R.size) w5/\mX w5 (.slice (some ⟨g,0,none⟩) 232 232) (lay out h' R.data.toList)/\ag [g] wr w5 from by
      by_cases hz:h'=232
      .obtain⟨w5,h1,h2,h3⟩:=KCP.o 0 (.inr ⟨by omega,by omega⟩) 0;exact⟨0,0,w5,.inl ⟨hz,rfl,rfl⟩,h1,h2,h3⟩
      .obtain⟨w5,h1,h2,h3⟩:=KCP.o h' (.inl rfl) (232-h');exact⟨h',232-h',w5,.inr ⟨hz,rfl,rfl⟩,h1,h2,h3⟩)
     obtain⟨oa,dc,w5,hoa,cp,B5,o5⟩:=KX.o;have S5:=SS.o.only o5 NS.o;have T5:=TT.o.only o5 NT.o;have O5:=xh (OO.o.trans (o5.aI OO.o.size (by simp;exact hg)));obtain⟨v6,w6,ea,S6,o6,F6⟩:=Hy S5 h' R.size (by omega);obtain⟨VA,vc,rfl⟩:=au S6;have B6:=xh (B5.only o6 (λx hx Jo=>cU S5 B5 (by decide) x Jo hx));have T6:=xh (T5.only o6 (cU T5 S5 (by decide)));have O6:=xh (O5.o.trans (o6.aI O5.o.size F.o))
     have F7:=xh (show ∀g∈ai (.slice VA (k+1) vc),w.heap.size<=g from λg hg=>(F6 g hg).elim (F.o g) (λh=>ar O5.o.size h));have S6:=xh S6;clear KX B5 o5 S5 T5 o6 F6 KCP NS NT HB
     rcases hoa with⟨rfl,rfl,rfl⟩|⟨hz,rfl,rfl⟩
     all_goals
      try simp only[show((232:Nat):Int)=232 from rfl]at ea
      go_wp2_with fail;go_roundw
      case rel=>exact⟨k+1,by omega,by go_num,by rw[HCk.o]<;>rfl,by rw[HCk.o];exact B6.o,by rw[HCk.o];exact S6.o,T6.o,O6.o,F7⟩
      case measure=>simp[intOf];omega
    .have BC:=xh (show k=n by omega);obtain rfl:k=n:=BC.o;have HL:=xh HLA.o;have HTL:=xh (Jr.o k).UE;rw[<-HAL.o]at HL;have KW:=xh (zV B (sP.of S) (fD s.data.toList k).heap BV (by have h1:=HL.o.head;have h2:=HL.o.hh;omega) (by omega) (by have:=HL.o.hh;omega) HL.o.small);rw[gG,<-HCF.o]at KW;have Qw:=hg;have OO:=xh O;have hlt2:(fD s.data.toList k).heap<=232:=HL.o.hh;clear B S T O HL
     generalize fD s.data.toList k=C at *;go_wp2_with fail;refine KW.o.mono ?_;rintro e w5 ⟨rfl,o5⟩;have O6:=xh (OO.o.trans (o5.aI OO.o.size (by simpa [ai]using Qw)));clear o5;go_wp2_with fail;go_ret2;exact⟨rfl,O6.o⟩
  .exact absurd HC.o ff
 .have HC:=xh h;have hb:(cu s.data.toList==0)=false:=by simpa using h
  have e1:ly s.data.toList=([],cu s.data.toList):=by unfold ly;rw[if_neg h]
  rw[e1];clear h e1;unfold lX at KA;generalize cu s.data.toList=q at *;go_enter func211,ntmps211;go_wp2_with fail;refine KA.o.mono ?_;rintro e w1 ⟨v,rfl,bf,fr,hv⟩
  rcases hv with⟨h0,-⟩|⟨-,rfl⟩
  .exact absurd h0 HC.o
  .have O:=xh bf;clear bf fr;go_wp2_with fail;go_ret2;exact⟨rfl,O.o⟩
variable{w:World}{A:Option Addr}{n c:Nat}{l:List Slot}
theorem lP:∃i:TypeInfo,prog.info? 271=some i/\i.zero=some (.agg #[.int .i64 0,.int .i64 0])/\i.size=2/\i.bytes=16:=info_parts vR
theorem UK{cc:Nat}(h:n<=c):dP prog 266 266 w (.slice A n c) (.slice none 0 cc)= .ok (.slice A n c) w:=by
 obtain⟨i0,Ge,kx,ju,kg⟩:=lP;unfold dP
 cases A with
 |none=>simp[Builtin.append_,run_underlying underlying266,sizeOf,typeInfo,Ge,Builtin.lenOf,Builtin.firstCells,yq.2 h,h]
 |some a=>simp[Builtin.append_,run_underlying underlying266,sizeOf,typeInfo,Ge,Builtin.lenOf,Builtin.firstCells,h,storeCells]
theorem Ic(l:List Slot)(i:Nat):sc l=sc (l.take i)++sc (l.drop i):=by rw[<-nP,kT]
theorem Ie(S:aT w 271 2 (.slice A n c) n (sc l))(i:Nat)(hi:i<=n)(hn:n<=1000000)(a:Addr)(cc:Nat)(lx:List Slot)(Ck:0<lx.length)(hm1:lx.length<=1000000)(hx:∀j u,(sc lx)[j]?=some u->w.cell? (a.add j)=some u):
  ∃v' w',dP prog 266 266 w (.slice A i i) (.slice (some a) lx.length cc)= .ok v' w'/\aT w' 271 2 v' (i+lx.length) (sc (l.take i++lx))/\Below w.heap.size w w'/\(∀g∈ai v',w.heap.size<=g):=by
 obtain⟨i0,Ge,kx,ju,kg⟩:=lP;have hl:=S.1;rw[jW]at hl;have hnl:(sc lx).length=lx.length*2:=by rw[jW];omega
 rcases S.2 with⟨hv,h0⟩|⟨g,cap,rest,hv,B,hc,_⟩
 .simp only[Value.slice.injEq]at hv;obtain⟨rfl,-,rfl⟩:=hv;subst h0;obtain rfl:i=0:=by omega
  obtain⟨v',w',e,S',o,F⟩:=dk (P:=prog) (aT.nil w 271 2) 266 266 i0 (.agg #[.int .i64 0,.int .i64 0]) 16 underlying266 Ge kx ju kg rfl (by omega) a lx.length cc (sc lx) hnl hx (UG lx) (by unfold maxLen;omega) (by omega);exact⟨v',w',e,by rw[jb,cW];simpa using S',o.below (by simp[ai]),λx hx=>(F x hx).elim (by simp[ai]) id⟩
 .simp only[Value.slice.injEq]at hv;obtain⟨rfl,-,rfl⟩:=hv;have hli:(sc (l.take i)).length=i*2:=by rw[jW,bm];omega
  obtain⟨v',w',yP,h2,h3⟩:=run_append_arg_grows (P:=prog) w 266 266 271 i0 (.agg #[.int .i64 0,.int .i64 0]) 2 16 underlying266 Ge kx ju kg rfl (by omega) ⟨g,0,none⟩ i i (sc (l.take i)) hli
   (bq B 0 _ (by
    intro j u hu;rw[bg];have hj:j<(sc (l.take i)).length:=(aS.1 hu).1;rw[Ic l i,cr,bF hj];exact hu)) a lx.length cc (sc lx) hnl hx (by omega) (by unfold maxLen;omega) (by omega)
  rw[<-nP]at h2;refine⟨v',w',yP,.yN h2,((ag.refl [] w).grown h3 (by simp)).eo,?_⟩;intro g' hg
  rcases h2.2 with⟨rfl,_⟩|⟨g'',Gr,cur,rfl,hb,_⟩
  .simp[ai]at hg
  .simp[ai]at hg;subst hg;exact hb
theorem zX(S:aT w 271 2 (.slice A n c) n (sc l))(i:Nat)(hi:i<=n)(hn:n<=1000000)(a b:Nat):
  ∃v' w',dP prog 266 266 (w.alloc (.cells #[.int .i64 a,.int .i64 b] 271)) (.slice A i i) (.slice (some ⟨w.heap.size,0,none⟩) 1 1)= .ok v' w'/\aT w' 271 2 v' (i+1) (sc (l.take i++[(a,b)]))/\Below w.heap.size w w'/\(∀g∈ai v',w.heap.size<=g):=by
 have b0:=(Below.refl w.heap.size w).alloc (ak _) (.cells #[.int .i64 (a:Int),.int .i64 (b:Int)] 271);obtain⟨v',w',e,S',o,F⟩:=Ie (S.below b0) i hi hn ⟨w.heap.size,0,none⟩ 1 [(a,b)] (by simp) (by simp) (bq (l:=[.int .i64 (a:Int),.int .i64 (b:Int)]) (aJ.new _ _ _) 0 _ (by intro j u hu;rw[bg];exact hu));exact⟨v',w',e,S',aB b0 o,λg hg=>ar (by simp) (F g hg)⟩
theorem xC{vt:Value}{m:Nat}{lt:List Slot}(T:aT w 271 2 vt m (sc lt))(S:aT w 271 2 (.slice A n c) n (sc l))(i:Nat)(hi:i<=n)(hn:n<=1000000)(hm:m<=1000000)(hmp:0<m):
  ∃A' cc v' w',((A=none/\n=0/\i=0/\c=0/\A'=none/\cc=0)\/(∃g,A=some ⟨g,0,none⟩/\c=i/\n=i/\A'=some ⟨g,0,none⟩/\cc=0)\/(∃g,A=some ⟨g,0,none⟩/\c≠i/\i<c/\n<=c/\A'=some ⟨g,i*2,none⟩/\cc=c-i))/\
   dP prog 266 266 w vt (.slice A' (n-i) cc)= .ok v' w'/\aT w' 271 2 v' (m+(n-i)) (sc (lt++l.drop i))/\ag (ai vt) w w'/\(∀g∈ai v',g∈ai vt\/w.heap.size<=g):=by
 obtain⟨i0,Ge,kx,ju,kg⟩:=lP;have hl:=S.1;rw[jW]at hl
 rcases S.2 with⟨hv,h0⟩|⟨g,cap,rest,hv,B,hc,_⟩
 .simp only[Value.slice.injEq]at hv;obtain⟨rfl,-,rfl⟩:=hv;subst h0;obtain rfl:i=0:=by omega
  have GK:l=[]:=lK (by omega);subst GK;obtain⟨g,cap,rest,rfl,_,vS,_⟩:=T.form hmp (by omega);exact⟨none,0,_,w,.inl ⟨rfl,rfl,rfl,rfl,rfl,rfl⟩,UK vS,by simpa using T,ag.refl _ _,λx hx=> .inl hx⟩
 .simp only[Value.slice.injEq]at hv;obtain⟨rfl,-,rfl⟩:=hv;have Gq:n<=c:=by
   have:=S.1;omega
  have hdl:(sc (l.drop i)).length=(n-i)*2:=by rw[jW,cO];omega
  have hcells:∀(o:Nat),o=i*2\/n-i=0->∀j u,(sc (l.drop i))[j]?=some u->w.cell? ((⟨g,o,none⟩:Addr).add j)=some u:=λo ho=>bq B o _ (by
   intro j u hu;have hj:j<(sc (l.drop i)).length:=(aS.1 hu).1
   rcases ho with rfl|h0
   .have hti:(sc (l.take i)).length=i*2:=by rw[jW,bm];omega
    rw[Ic l i,cr,dW (by omega),hti,Nat.add_sub_cancel_left,bF hj];exact hu
   .omega)
  have key:∀(o cc:Nat),o=i*2\/n-i=0->∃v' w',dP prog 266 266 w vt (.slice (some ⟨g,o,none⟩) (n-i) cc)= .ok v' w'/\aT w' 271 2 v' (m+(n-i)) (sc (lt++l.drop i))/\ag (ai vt) w w'/\(∀g∈ai v',g∈ai vt\/w.heap.size<=g):=by
   intro o cc ho;obtain⟨v',w',e,S',o',F⟩:=dk (P:=prog) T 266 266 i0 (.agg #[.int .i64 0,.int .i64 0]) 16 underlying266 Ge kx ju kg rfl (by omega) ⟨g,o,none⟩ (n-i) cc (sc (l.drop i)) hdl (hcells o ho) (UG _) (by unfold maxLen;omega) (by omega);rw[<-nP]at S';exact⟨v',w',e,S',o',F⟩
  by_cases hci:c=i
  .have hni:n=i:=by omega
   obtain⟨v',w',h1,h2,h3,h4⟩:=key 0 0 (.inr (by omega));exact⟨_,0,v',w',.inr (.inl ⟨g,rfl,hci,hni,rfl,rfl⟩),h1,h2,h3,h4⟩
  .obtain⟨v',w',h1,h2,h3,h4⟩:=key (i*2) (c-i) (.inl rfl);exact⟨_,c-i,v',w',.inr (.inr ⟨g,rfl,hci,by omega,Gq,rfl,rfl⟩),h1,h2,h3,h4⟩
variable{b r:List UInt8}
def uE(b:List UInt8)(i:Int)(r:List UInt8):List UInt8×Int:=
 if cu b=0 then(if 0<=i/\i<=(bS b 0:Int)then(if(r.length:Int)<=iC b-4 then(sN b i.toNat r,0)else([],11))else([],3))else([],cu b)
theorem UL(h:¬4+4*(bS b 0+1)+r.length>bS b 2):jV b r=b:=by unfold jV;rw[if_neg h]
theorem Qx(h:4+4*(bS b 0+1)+r.length>bS b 2):jV b r=gR b:=by unfold jV;rw[if_pos h]
theorem rV(s:ByteArray)(w:World)(hs:s.size<=1000000):
  ∃cap w',(convert 9 150 (.string s)).run prog w=.ok (.slice (some ⟨w.heap.size,0,none⟩) s.size cap) w'/\mX w' (.slice (some ⟨w.heap.size,0,none⟩) s.size cap) s.data.toList/\Below w.heap.size w w':=by
 obtain⟨cap,w1,e1,S1,bf⟩:=xY (P:=prog) w 9 150 5 s underlying9 underlying150 underlying5 (by unfold maxLen;omega);refine⟨cap,w1,e1,?_,bf⟩;unfold mX;rw[show s.data.toList.length=s.size from by simp];exact S1
theorem Ig(h:Sound b)(i:Nat)(hr:(r.length:Int)<=iC b-4)(hi:i<=bS b 0):
  ∃t:List UInt8,t=jV b r/\Sound t/\bS t 0=bS b 0/\4+4*(bS b 0+1)+r.length<=bS t 2/\
   sN b i r=kF (lay t (bS t 2-r.length) r) (((bI t).take i++[(bS t 2-r.length,r.length)])++(bI t).drop i) (bS t 2-r.length)/\
   Laid (lay t (bS t 2-r.length) r) (((bI t).take i++[(bS t 2-r.length,r.length)])++(bI t).drop i) (bS t 2-r.length):=by
 obtain⟨hs,he,h0,hh⟩:=h.base r hr;refine⟨_,rfl,hs,h0,hh,?_,?_⟩
 .unfold sN;simp
 .rw[cr];exact Laid.insert hs i r (by rw[h0];exact hh) (by rw[h0];exact hi)
theorem Qy(s r:ByteArray)(i:Nat)(w:World)(hs:Sound s.data.toList)(hr:(r.size:Int)<=iC s.data.toList-4)(hi:i<=bS s.data.toList 0):
  Calls prog 164 #[.string s,.int .i64 i,.string r] w λe w'=>e=.returned (.tuple #[.string ⟨(sN s.data.toList i r.data.toList).toArray⟩,.int .i64 0])/\Below w.heap.size w w':=by
 have Gh:s.size=232:=by have:=hs.len;simpa using this
 have h4:=hs.head;have h5:=hs.heap;have Lk:r.data.toList.length=r.size:=by simp
 obtain⟨t,ht,tS,t0,t2,hF,NU⟩:=Ig hs i (r:=r.data.toList) (by rw[Lk];exact hr) hi;rw[Lk]at t2 hF NU;rw[hF];have EL:=(eH _).2 hs;have TG:uC s.data.toList=iC s.data.toList:=by unfold uC;rw[if_pos EL]
 have hrle:iC s.data.toList<=228:=by unfold iC;omega
 have KC:=xh (λw'=>rh s w' (by omega));have KL:=xh (λw'=>kl s w' (by omega) (by omega));have KR:=xh (λw'=>Hx s w' (by omega));have K2:=xh (λw'=>eZ s 2 w' (by omega) (by omega) (by omega));have KM:=xh (λw'=>Ib s w' (by omega));have hcg:ly s.data.toList=(gR s.data.toList,0):=by unfold ly;rw[if_pos EL]
 rw[hcg]at KM;rw[EL]at KC;rw[TG]at KR;simp only[show(2:Int).toNat=2 from rfl]at K2;obtain⟨T,rfl⟩:∃T:ByteArray,T.data.toList=t:=⟨⟨t.toArray⟩,by simp⟩;have Jq:T.size=232:=by have:=tS.len;simpa using this
 have tH:=tS.heap;have KLT:=xh (λw'=>kl T w' (by rw[t0];omega) (by omega));have K2T:=xh (λw'=>eZ T 2 w' (by omega) (by omega) (by omega));simp only[show(2:Int).toNat=2 from rfl]at K2T;rw[t0]at KLT;have Gn:=xh (da T.data.toList);rw[t0]at Gn;obtain⟨h',hh'⟩:∃h',bS T.data.toList 2=h'+r.size:=⟨bS T.data.toList 2-r.size,by omega⟩;rw[hh',oy]at NU;rw[hh',oy];rw[hh']at tH t2 K2T
 have NN:bS s.data.toList 0<65536:=zQ _ _;have xD:=xh NU;have HT:=xh ht;have HCB:=xh (show 4+4*(bS s.data.toList 0+1)+r.size>bS s.data.toList 2->(⟨(gR s.data.toList).toArray⟩:ByteArray)=T from λhg=>by
  rw[Qx (by rw[Lk];exact hg)]at ht;rw[<-ht])
 have Ur:=xh (show ¬4+4*(bS s.data.toList 0+1)+r.size>bS s.data.toList 2->s=T from λhg=>by
  rw[UL (by rw[Lk];exact hg)]at ht;apply mr;apply rP.1;exact ht.symm)
 have HTL:=xh Jq;have hTl1:T.size<=1000000:=by omega
 clear ht tS hF NU EL TG hcg Gh Lk hh' Jq t0 hs;generalize bS s.data.toList 0=n at *;generalize bS s.data.toList 2=heap at *;generalize iC s.data.toList=room at *;go_enter func164,ntmps164;go_wp2_with fail;refine(KC.o _).mono ?_;rintro e w1 ⟨rfl,bf⟩;have O1:=xh bf;clear bf;go_wp2_with fail;refine(KL.o _).mono ?_;rintro e w2 ⟨v,rfl,S2,cA,Cz⟩;have O2:=xh (aB O1.o cA);have hS2:=xh S2;obtain⟨A2,c2,rfl⟩:=au S2
 have FR2:=xh (show ∀g∈ai (.slice A2 n c2),w.heap.size<=g from λg hg=>ar O1.o.size (Cz g hg));clear S2 cA Cz;go_wp2_with fail;refine(KR.o _).mono ?_;rintro e w3 ⟨rfl,gh⟩;have O3:=xh (aB O2.o gh);have S3:=xh (hS2.o.below gh);clear gh hS2;go_wp2_with fail;refine(K2.o _).mono ?_;rintro e w4 ⟨rfl,jw⟩;have O4:=xh (aB O3.o jw);have S4:=xh (S3.o.below jw);clear jw S3 O3 O2 O1
 by_cases hg:4+4*(n+1)+r.size>heap
 .have e1:=HCB.o hg;rw[e1]at KM;clear e1;have Da:heap<4+4*(n+1)+r.size:=hg;clear hg HCB Ur;go_wp2_with fail;refine(KM.o _).mono ?_;rintro e w5 ⟨rfl,nC⟩;have O5:=xh (aB O4.o nC);clear nC O4;go_wp2_with fail;refine(KLT.o _).mono ?_;rintro e w6 ⟨v,rfl,S6,sA,fr6⟩;have O6:=xh (aB O5.o sA);obtain⟨A,c,rfl⟩:=au S6;have S:=xh S6;have FR:=xh (show ∀g∈ai (.slice A n c),w.heap.size<=g from λg hg=>ar O5.o.size (fr6 g hg))
  clear S6 sA fr6 O5 S4;go_wp2_with fail;refine(K2T.o _).mono ?_;rintro e w7 ⟨rfl,gD⟩;have O7:=xh (aB O6.o gD);have S7:=xh (S.o.below gD);clear gD S O6 Da KM K2 KC KL KR K2T KLT;obtain⟨cap,w8,e8,B8,xZ⟩:=rV T w7 (by omega);rw[HTL.o]at e8 B8;have E8:=xh e8;have O8:=xh (aB O7.o xZ);have S8:=S7.o.below xZ;have hgw:=ar O7.o.size (ak w7.heap.size);have qk:T.data.toList.length=232:=by have:=HTL.o;simpa using this
  have NS:=xh (uD S8 B8 (by decide));have vS:232<=cap:=by obtain⟨rest,_,h2,_⟩:=aT.tx B8;rw[jK,qk]at h2;omega
  obtain⟨oa,dc,w9,hoa,cp,B9,o9⟩:∃(oa dc:Nat) (w9:World),((h'=232/\cap=232/\oa=0/\dc=0)\/(h'≠cap/\h'<cap/\oa=h'/\dc=cap-h'))/\(Builtin.copy_ #[150,9] 3 #[.slice (some ⟨w7.heap.size,oa,none⟩) (232-h') dc,.string r]).run prog w8=.ok (goInt r.size) w9/\mX w9 (.slice (some ⟨w7.heap.size,0,none⟩) 232 cap) (lay T.data.toList h' r.data.toList)/\ag [w7.heap.size] w8 w9:=by
   rw[<-qk]at B8
   by_cases hz:h'=cap
   .obtain⟨w9,h1,h2,h3⟩:=qh B8 h' 0 0 r (by omega) (.inr ⟨by omega,by omega⟩) (232-h') (by omega);rw[qk]at h2;exact⟨0,0,w9,.inl ⟨by omega,by omega,rfl,rfl⟩,h1,h2,h3⟩
   .obtain⟨w9,h1,h2,h3⟩:=qh B8 h' h' (cap-h') r (by omega) (.inl rfl) (232-h') (by omega);rw[qk]at h2;exact⟨h',cap-h',w9,.inr ⟨hz,by omega,rfl,rfl⟩,h1,h2,h3⟩
  have S9:=S8.only o9 NS.o;have O9:=xh (O8.o.trans (o9.aI O8.o.size (by simpa using hgw)));obtain⟨v10,lY,ea,T10,Ft,UM⟩:=zX S9 i hi (by omega) h' r.size;obtain⟨V10,c10,rfl⟩:=au T10;have O10:=xh (aB O9.o Ft);have B10:=B9.below Ft;have uF:=S9.below Ft;obtain⟨A',cc,v11,w11,hd,eb,T11,o11,-⟩:=xC T10 uF i hi (by omega) (by omega) (by omega);obtain⟨V11,c11,rfl⟩:=au T11
  have B11:=B10.only o11 (λx hx Jo=>cU T10 B10 (by decide) x Jo hx);have rL:=xh (O10.o.trans (o11.aI O10.o.size (λx hx=>ar O9.o.size (UM x hx))));have KW:=xh (zV B11 (sP.of T11) h' xD.o.len (by have h1:=xD.o.head;have h2:=xD.o.hh;omega) (by omega) (by omega) xD.o.small);rw[gG]at KW;have Qw:=xh (show ∀x∈ai (.slice (some ⟨w7.heap.size,0,none⟩) 232 cap),w.heap.size<=x from by simpa [ai]using hgw)
  generalize UN:kF (lay T.data.toList h' r.data.toList) (List.take i (bI T.data.toList)++[(h',r.size)]++List.drop i (bI T.data.toList)) h'=RES at *;have Tb:=xh UN;clear UN;clear e8 B8 xZ S8 NS B9 o9 S9 T10 Ft UM B10 uF T11 o11 B11 O7 S7 O8 O9 O10 qk;go_wp2_with fail;rw[E8.o]
  rcases hoa with⟨rfl,rfl,rfl,rfl⟩|⟨hz,kg,rfl,rfl⟩
  all_goals
   rcases hd with⟨rfl,rfl,rfl,rfl,rfl,rfl⟩|⟨gA,rfl,rfl,rfl,rfl,rfl⟩|⟨gA,rfl,hci,hci2,Gq,rfl,rfl⟩
  all_goals
   try simp only[show((232:Nat):Int)=232 from rfl,show((0:Nat):Int)=0 from rfl]at ea
   try simp only[fy,iw]at eb KW
   go_wp2_with fail;refine KW.o.mono ?_;rintro e w12 ⟨rfl,o12⟩;have O12:=xh (rL.o.trans (o12.aI rL.o.size Qw.o));clear o12;go_wp2_with fail;go_ret2;refine⟨?_,O12.o⟩
   first|rfl|(rw[Tb.o];rfl)
 .have e1:=Ur.o hg;have Da:4+4*(n+1)+r.size<=heap:=by omega
  clear hg HCB Ur;subst e1;have A2':=FR2;go_wp2_with fail;refine(K2T.o _).mono ?_;rintro e w7 ⟨rfl,gD⟩;have O7:=xh (aB O4.o gD);have S7:=xh (S4.o.below gD);clear gD S4 O4 Da KM K2 KC KL KR K2T KLT;obtain⟨cap,w8,e8,B8,xZ⟩:=rV s w7 (by omega);rw[HTL.o]at e8 B8;have E8:=xh e8;have O8:=xh (aB O7.o xZ);have S8:=S7.o.below xZ;have hgw:=ar O7.o.size (ak w7.heap.size)
  have qk:s.data.toList.length=232:=by have:=HTL.o;simpa using this
  have NS:=xh (uD S8 B8 (by decide));have vS:232<=cap:=by obtain⟨rest,_,h2,_⟩:=aT.tx B8;rw[jK,qk]at h2;omega
  obtain⟨oa,dc,w9,hoa,cp,B9,o9⟩:∃(oa dc:Nat) (w9:World),((h'=232/\cap=232/\oa=0/\dc=0)\/(h'≠cap/\h'<cap/\oa=h'/\dc=cap-h'))/\(Builtin.copy_ #[150,9] 3 #[.slice (some ⟨w7.heap.size,oa,none⟩) (232-h') dc,.string r]).run prog w8=.ok (goInt r.size) w9/\mX w9 (.slice (some ⟨w7.heap.size,0,none⟩) 232 cap) (lay s.data.toList h' r.data.toList)/\ag [w7.heap.size] w8 w9:=by
   rw[<-qk]at B8
   by_cases hz:h'=cap
   .obtain⟨w9,h1,h2,h3⟩:=qh B8 h' 0 0 r (by omega) (.inr ⟨by omega,by omega⟩) (232-h') (by omega);rw[qk]at h2;exact⟨0,0,w9,.inl ⟨by omega,by omega,rfl,rfl⟩,h1,h2,h3⟩
   .obtain⟨w9,h1,h2,h3⟩:=qh B8 h' h' (cap-h') r (by omega) (.inl rfl) (232-h') (by omega);rw[qk]at h2;exact⟨h',cap-h',w9,.inr ⟨hz,by omega,rfl,rfl⟩,h1,h2,h3⟩
  have S9:=S8.only o9 NS.o;have O9:=xh (O8.o.trans (o9.aI O8.o.size (by simpa using hgw)));obtain⟨v10,lY,ea,T10,Ft,UM⟩:=zX S9 i hi (by omega) h' r.size;obtain⟨V10,c10,rfl⟩:=au T10;have O10:=xh (aB O9.o Ft);have B10:=B9.below Ft;have uF:=S9.below Ft;obtain⟨A',cc,v11,w11,hd,eb,T11,o11,-⟩:=xC T10 uF i hi (by omega) (by omega) (by omega);obtain⟨V11,c11,rfl⟩:=au T11
  have B11:=B10.only o11 (λx hx Jo=>cU T10 B10 (by decide) x Jo hx);have rL:=xh (O10.o.trans (o11.aI O10.o.size (λx hx=>ar O9.o.size (UM x hx))));have KW:=xh (zV B11 (sP.of T11) h' xD.o.len (by have h1:=xD.o.head;have h2:=xD.o.hh;omega) (by omega) (by omega) xD.o.small);rw[gG]at KW;have Qw:=xh (show ∀x∈ai (.slice (some ⟨w7.heap.size,0,none⟩) 232 cap),w.heap.size<=x from by simpa [ai]using hgw)
  generalize UN:kF (lay s.data.toList h' r.data.toList) (List.take i (bI s.data.toList)++[(h',r.size)]++List.drop i (bI s.data.toList)) h'=RES at *;have Tb:=xh UN;clear UN;clear e8 B8 xZ S8 NS B9 o9 S9 T10 Ft UM B10 uF T11 o11 B11 O7 S7 O8 O9 O10 qk;go_wp2_with fail;rw[E8.o]
  rcases hoa with⟨rfl,rfl,rfl,rfl⟩|⟨hz,kg,rfl,rfl⟩
  all_goals
   rcases hd with⟨rfl,rfl,rfl,rfl,rfl,rfl⟩|⟨gA,rfl,rfl,rfl,rfl,rfl⟩|⟨gA,rfl,hci,hci2,Gq,rfl,rfl⟩
  all_goals
   try simp only[show((232:Nat):Int)=232 from rfl,show((0:Nat):Int)=0 from rfl]at ea
   try simp only[fy,iw]at eb KW
   go_wp2_with fail;refine KW.o.mono ?_;rintro e w12 ⟨rfl,o12⟩;have O12:=xh (rL.o.trans (o12.aI rL.o.size Qw.o));clear o12;go_wp2_with fail;go_ret2;refine⟨?_,O12.o⟩
   first|rfl|(rw[Tb.o];rfl)
attribute [local go_sem ↓] Go.wp_at_zero Go.wp_at_succ
theorem Me(s r:ByteArray)(i:Int)(w:World)(hs:s.size<=1000000)(hr:r.size<=9223372036854775807):
  Calls prog 164 #[.string s,.int .i64 i,.string r] w λe w'=>e=.returned (.tuple #[.string ⟨(uE s.data.toList i r.data.toList).1.toArray⟩,.int .i64 (uE s.data.toList i r.data.toList).2])/\Below w.heap.size w w':=by
 have Lk:r.data.toList.length=r.size:=by simp
 have KC:=xh (λw'=>rh s w' hs)
 by_cases h:cu s.data.toList=0
 .have hS:=(eH _).1 h;have Gh:s.size=232:=by have:=hS.len;simpa using this
  have h4:=hS.head;have h5:=hS.heap
  by_cases hi:0<=i/\i<=(bS s.data.toList 0:Int)
  .by_cases hg:(r.size:Int)<=iC s.data.toList-4
   .have e1:uE s.data.toList i r.data.toList=(sN s.data.toList i.toNat r.data.toList,0):=by unfold uE;rw[if_pos h,if_pos hi,Lk,if_pos hg]
    rw[e1];obtain⟨k,rfl⟩:=eT hi.1;rw[gG];exact Qy s r k w hS hg (by omega)
   .have e1:uE s.data.toList i r.data.toList=([],11):=by unfold uE;rw[if_pos h,if_pos hi,Lk,if_neg hg]
    rw[e1];have TG:uC s.data.toList=iC s.data.toList:=by unfold uC;rw[if_pos h]
    have Js: -1000000<=iC s.data.toList:=by
     rw[zU hS];have:=hS.sum;omega
    have Qz:iC s.data.toList<=228:=by unfold iC;omega
    have KL:=xh (λw'=>kl s w' (by omega) hs);have KR:=xh (λw'=>Hx s w' hs);rw[TG]at KR;rw[h]at KC;have Da:iC s.data.toList-4<(r.size:Int):=by omega
    clear e1 h hS TG hg;generalize iC s.data.toList=room at *;generalize bS s.data.toList 0=n at *;obtain⟨hi1,NI⟩:=hi;go_enter func164,ntmps164;go_wp2_with fail;refine(KC.o _).mono ?_;rintro e w1 ⟨rfl,bf⟩;have O1:=xh bf;clear bf;go_wp2_with fail;refine(KL.o _).mono ?_;rintro e w2 ⟨v,rfl,S2,cA,-⟩;have O2:=xh (aB O1.o cA);obtain⟨A2,c2,rfl⟩:=au S2;clear S2 cA;go_wp2_with fail;refine(KR.o _).mono ?_;rintro e w3 ⟨rfl,gh⟩
    have O3:=xh (aB O2.o gh);clear gh;go_wp2_with fail;go_ret2;exact⟨rfl,O3.o⟩
  .have e1:uE s.data.toList i r.data.toList=([],3):=by unfold uE;rw[if_pos h,if_neg hi]
   rw[e1];have KL:=xh (λw'=>kl s w' (by omega) hs);rw[h]at KC;generalize bS s.data.toList 0=n at *;have hx:i<0\/(¬i<0/\(n:Int)<i):=by omega
   clear e1 h hi hS
   rcases hx with h1|⟨h1,h2⟩
   all_goals
    go_enter func164,ntmps164;go_wp2_with fail;refine(KC.o _).mono ?_;rintro e w1 ⟨rfl,bf⟩;have O1:=xh bf;clear bf;go_wp2_with fail;refine(KL.o _).mono ?_;rintro e w2 ⟨v,rfl,S2,cA,-⟩;have O2:=xh (aB O1.o cA);obtain⟨A2,c2,rfl⟩:=au S2;clear S2 cA;go_wp2_with fail;go_ret2;exact⟨rfl,O2.o⟩
 .have e1:uE s.data.toList i r.data.toList=([],cu s.data.toList):=by unfold uE;rw[if_neg h]
  have hb:(cu s.data.toList==0)=false:=by simpa using h
  rw[e1];clear e1 h;generalize cu s.data.toList=q at *;go_enter func164,ntmps164;go_wp2_with fail;refine(KC.o _).mono ?_;rintro e w1 ⟨rfl,bf⟩;have O1:=xh bf;clear bf;go_wp2_with fail;go_ret2;exact⟨rfl,O1.o⟩
end Sl
namespace Sl
open Go.RowKit
attribute [local go_sem ↓] bz
theorem lz{w:World}{A:Option Addr}{n c:Nat}{l:List (List UInt8)}(S:aT w 9 1 (.slice A n c) n (strs l))(k:Nat)(hk:k<l.length):∃g,A=some ⟨g,0,none⟩/\w.cell? ⟨g,k,none⟩=some (.string ⟨l[k].toArray⟩):=by
 have hl:=S.1;rw[xy]at hl;obtain⟨g,cap,rest,hv,B,_,_⟩:=S.form (by omega) (by omega);simp only[Value.slice.injEq,true_and]at hv;obtain⟨rfl,rfl⟩:=hv;exact⟨g,rfl,B.ab (by rw[dj,bF (by rw[xy];exact hk)];simp[strs,aL hk])⟩
theorem size_of_list(l:List UInt8):(⟨l.toArray⟩:ByteArray).size=l.length:=by
 show l.toArray.size=l.length;simp
attribute [local go_sem ↓] Go.wp_at_zero Go.wp_at_succ
section
variable{w:World}{A:Option Addr}{n c i:Nat}{l:List (List UInt8)}{A3:Option Addr}{cc:Nat}
end
section
variable{W:World}{A:Option Addr}{n c i:Nat}{l:List (List UInt8)}{A3:Option Addr}{cc:Nat}{r:ByteArray}
end
end Sl
namespace Sl
open Go.RowKit
attribute [local go_sem ↓] bz
variable{b:List UInt8}
theorem NV(T:ByteArray):(⟨T.data.toList.toArray⟩:ByteArray)=T:=by simp
theorem UO(b:List UInt8):∃T:ByteArray,T.data.toList=b:=⟨⟨b.toArray⟩,by simp⟩
theorem kL(h:Sound b):∀r∈cZ b,r.length<=232:=by
 intro r hr;simp only[cZ,dC]at hr;obtain⟨x,hx,rfl⟩:=hr;have:=(h.fit.pE x hx).2;rw[xx (by rw[h.len];omega)];omega
theorem mc(h:Sound b):(cZ b).length<=57:=by
 rw[cV];have:=h.head;have:=h.heap;omega
theorem NW(h:Sound b)(i:Nat)(r:List UInt8)(hr:(r.length:Int)<=jC (cZ b)-4)(hi:i<=(cZ b).length):
  uE b i r=(sN b i r,0)/\Sound (sN b i r)/\cZ (sN b i r)=(cZ b).take i++r::(cZ b).drop i:=by
 rw[cV]at hi;rw[<-NM h]at hr;refine⟨?_,h.insert i r hr hi⟩;unfold uE;rw[if_pos ((eH b).2 h),if_pos ⟨by omega,by omega⟩,if_pos hr,gG]
open Go.RowKit Go.Deep Go.ChangeShapes Go.WideShapes
theorem Mf{b:List UInt8}(h:Sound b)(i:Nat)(r:List UInt8)(hr:jC (cZ b)-4<(r.length:Int))(hi:i<=(cZ b).length):uE b i r=([],11):=by
 rw[cV]at hi;rw[<-NM h]at hr;unfold uE;rw[if_pos ((eH b).2 h),if_pos ⟨by omega,by omega⟩,if_neg (by omega)]
end Sl
namespace Sl
open Go.RowKit Go.Deep Go.ChangeShapes Go.WideShapes
structure Ac where
 kind:Int
 i:Int
 r:ByteArray
instance:Inhabited Ac:=⟨⟨0,0,.empty⟩⟩
end Sl
end Go.Proofs.YtmonobkginiajaaGreat
