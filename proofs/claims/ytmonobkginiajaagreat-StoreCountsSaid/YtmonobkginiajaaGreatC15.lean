/- packed. -/
import Derived.Test.YtmonobkginiajaaGreatC14
set_option linter.all false
set_option maxRecDepth 100000
set_option maxHeartbeats 8000000
namespace Go.Proofs.YtmonobkginiajaaGreat.Nd
open Go.RowKit Sl
attribute [local go_sem ↓] Go.wp_at_zero Go.wp_at_succ aW
def jV(rs:List (List UInt8)):Bool:=decide (rs.head?=some [1])
def iP(rs:List (List UInt8)):List E:=rs.tail.map λr=>eY ⟨r.toArray⟩
def fE(rs:List (List UInt8)):Prop:=(rs.head?=some [1]\/rs.head?=some [2])/\(∀r∈rs.tail,fi ⟨r.toArray⟩)/\cu (iP rs) (jV rs)
def jW(rs:List (List UInt8))(w:World)(e:Ending)(w':World):Prop:=
 ((¬fE rs/\e=.returned (.tuple #[aV false none 0 0,.int .i64 14]))\/
  (fE rs/\∃A n c,e=.returned (.tuple #[aV (jV rs) A n c,.int .i64 0])/\aQ w' 111 3 (.slice A n c) n (ax (iP rs))/\Hid (∀g∈ah (.slice A n c),w.heap.size<=g)))/\Below w.heap.size w w'
theorem got_nil(s:ByteArray)(w:World)(hs:s.size<=1000000)(hq:bq s.data.toList=0)(kX:bQ s.data.toList=[]):
  Calls Tryz.prog 122 #[.string s] w (jW ([]) w):=by
 have B0:=aD.new w 118 #[.bool false,.slice none 0 0];have O0:=ae (Below.refl w.heap.size w) (.cells #[.bool false,.slice none 0 0] 118);have KA:=xh (jU s (w.alloc (.cells #[.bool false,.slice none 0 0] 118)) hs);unfold jW aV;have O0:=xh O0;have B0:=xh B0;have hS:=(cU _).1 hq;have hm:=js hS;have Ez:=xh (ir hS);have hN:=bI s.data.toList;obtain⟨N,sW⟩:∃N,bl s.data.toList 0=N:=⟨_,rfl⟩;unfold je at KA
 rw[hq,kX,sW]at KA;rw[kX,sW]at hN;rw[kX]at hm Ez;clear hS hq kX sW;go_enter Tryz.func122,Tryz.ntmps122;go_wp2_with fail;refine KA.o.mono ?_;rintro e w1 ⟨v,rfl,aL,fr,hv⟩;have S1:aQ w1 9 1 v N (strs []):=hv.elim (λh=>h.2) (λh=>absurd rfl h.1);have uU:∀x∈ah v,w.heap.size+1<=x:=λx hx=>by have:=fr x hx;rw[pN]at this;exact this
 obtain⟨V1,nr,rfl⟩:=aq S1;have O1:=xh (ao O0.o aL);have B1:=xh (B0.o.below aL B0.o.lt);have f0:w1.frozen? ⟨w.heap.size,0,none⟩=false:=B1.o.frozen 0 (by simp);have f1:w1.frozen? ⟨w.heap.size,1,none⟩=false:=B1.o.frozen 1 (by simp);have z0:w1.cell? ⟨w.heap.size,0,none⟩=some (.bool false):=B1.o.ab (i:=0) rfl;have z1:w1.cell? ⟨w.heap.size,1,none⟩=some (.slice none 0 0):=B1.o.ab (i:=1) rfl
 have BZ:=xh ((B1.o.bu 0 (.bool false)).bu 1 (.slice none 0 0));have OZ:=xh (((((ag.aj (S:=[]) O1.o).setCell (p:=⟨w.heap.size,0,none⟩) (λh=>absurd h (by simp)) (.bool false)).setCell (p:=⟨w.heap.size,1,none⟩) (λh=>absurd h (by simp)) (.slice none 0 0))).cK);clear fr aL hv;obtain rfl:N=0:=by simpa using hN.symm
 go_wp2_with fail;exact bodyPost_ret (dS rfl rfl BZ.o) rfl ⟨.inl ⟨by simp[fE],rfl⟩,OZ.o⟩
theorem got_odd(s:ByteArray)(w:World)(hs:s.size<=1000000)(hq:bq s.data.toList=0)(r0:List UInt8)(rest:List (List UInt8))(h1:¬r0=[1])(h2:¬r0=[2])(kX:bQ s.data.toList=r0::rest):
  Calls Tryz.prog 122 #[.string s] w (jW (r0::rest) w):=by
 have B0:=aD.new w 118 #[.bool false,.slice none 0 0];have O0:=ae (Below.refl w.heap.size w) (.cells #[.bool false,.slice none 0 0] 118);have KA:=xh (jU s (w.alloc (.cells #[.bool false,.slice none 0 0] 118)) hs);unfold jW aV;have O0:=xh O0;have B0:=xh B0;have hS:=(cU _).1 hq;have hm:=js hS;have Ez:=xh (ir hS);have hN:=bI s.data.toList;obtain⟨N,sW⟩:∃N,bl s.data.toList 0=N:=⟨_,rfl⟩;unfold je at KA
 rw[hq,kX,sW]at KA;rw[kX,sW]at hN;rw[kX]at hm Ez;clear hS hq kX sW;go_enter Tryz.func122,Tryz.ntmps122;go_wp2_with fail;refine KA.o.mono ?_;rintro e w1 ⟨v,rfl,aL,fr,hv⟩;have S1:aQ w1 9 1 v N (strs (r0::rest)):=hv.elim (λh=>h.2) (λh=>absurd rfl h.1);have uU:∀x∈ah v,w.heap.size+1<=x:=λx hx=>by have:=fr x hx;rw[pN]at this;exact this
 obtain⟨V1,nr,rfl⟩:=aq S1;have O1:=xh (ao O0.o aL);have B1:=xh (B0.o.below aL B0.o.lt);have f0:w1.frozen? ⟨w.heap.size,0,none⟩=false:=B1.o.frozen 0 (by simp);have f1:w1.frozen? ⟨w.heap.size,1,none⟩=false:=B1.o.frozen 1 (by simp);have z0:w1.cell? ⟨w.heap.size,0,none⟩=some (.bool false):=B1.o.ab (i:=0) rfl;have z1:w1.cell? ⟨w.heap.size,1,none⟩=some (.slice none 0 0):=B1.o.ab (i:=1) rfl
 have BZ:=xh ((B1.o.bu 0 (.bool false)).bu 1 (.slice none 0 0));have OZ:=xh (((((ag.aj (S:=[]) O1.o).setCell (p:=⟨w.heap.size,0,none⟩) (λh=>absurd h (by simp)) (.bool false)).setCell (p:=⟨w.heap.size,1,none⟩) (λh=>absurd h (by simp)) (.slice none 0 0))).cK);clear fr aL hv;obtain rfl:N=rest.length+1:=by simpa using hN.symm
 obtain⟨g,rfl,ck⟩:=iN S1 0 (by simp);have hgw:w.heap.size<g:=uU g (by simp[ah]);have hgl:g<w1.heap.size:=S1.lt g (by simp[ah]);have hwl1:=B1.o.lt;have ED:w1.cell? ⟨g,0,none⟩=some (.string ⟨r0.toArray⟩):=ck;have S1:=xh S1;have Ex:rest.length<=56:=nH hm;have pG:rest.length+1<=nr/\nr<=maxLen:=by
  obtain⟨r,_,h1,_,h2⟩:=S1.o.oO;simp at h1;exact⟨by first|omega|(simp;omega),h2⟩
 clear ck uU KA hN hm;obtain⟨K0,xa⟩:∃K0:ByteArray,(⟨r0.toArray⟩:ByteArray)=K0:=⟨_,rfl⟩;rw[xa]at ED;have BH:K0.toList=r0:=by rw[dk,<-xa]
 clear xa;have n1:¬(rest.length:Int)+1=0:=by omega
 have n2:((rest.length:Int)+1==0)=false:=by simpa using n1
 rw[<-BH]at h1 h2;have k1:(K0.toList==[1])=false:=by simpa using h1
 have k2:(K0.toList==[2])=false:=by simpa using h2
 have HNO:=xh (show ¬fE (r0::rest)from λhx=>by
  have:=hx.1;simp only[List.head?_cons,Option.some.injEq]at this;rw[<-BH]at this;exact this.elim h1 h2)
 clear BH;go_wp2_with fail;exact bodyPost_ret (dS rfl rfl BZ.o) rfl ⟨.inl ⟨HNO.o,rfl⟩,OZ.o⟩
theorem xb(s:ByteArray)(w:World)(hs:s.size<=1000000)(hq:bq s.data.toList=0)(r0:List UInt8)(xy:r0=[1])(kX:bQ s.data.toList=[r0]):
  Calls Tryz.prog 122 #[.string s] w (jW ([r0]) w):=by
 have B0:=aD.new w 118 #[.bool false,.slice none 0 0];have O0:=ae (Below.refl w.heap.size w) (.cells #[.bool false,.slice none 0 0] 118);have KA:=xh (jU s (w.alloc (.cells #[.bool false,.slice none 0 0] 118)) hs);unfold jW aV;have O0:=xh O0;have B0:=xh B0;have hS:=(cU _).1 hq;have hm:=js hS;have Ez:=xh (ir hS);have hN:=bI s.data.toList;obtain⟨N,sW⟩:∃N,bl s.data.toList 0=N:=⟨_,rfl⟩;unfold je at KA
 rw[hq,kX,sW]at KA;rw[kX,sW]at hN;rw[kX]at hm Ez;clear hS hq kX sW;go_enter Tryz.func122,Tryz.ntmps122;go_wp2_with fail;refine KA.o.mono ?_;rintro e w1 ⟨v,rfl,aL,fr,hv⟩;have S1:aQ w1 9 1 v N (strs [r0]):=hv.elim (λh=>h.2) (λh=>absurd rfl h.1);have uU:∀x∈ah v,w.heap.size+1<=x:=λx hx=>by have:=fr x hx;rw[pN]at this;exact this
 obtain⟨V1,nr,rfl⟩:=aq S1;have O1:=xh (ao O0.o aL);have B1:=xh (B0.o.below aL B0.o.lt);have f0:w1.frozen? ⟨w.heap.size,0,none⟩=false:=B1.o.frozen 0 (by simp);have f1:w1.frozen? ⟨w.heap.size,1,none⟩=false:=B1.o.frozen 1 (by simp);have z0:w1.cell? ⟨w.heap.size,0,none⟩=some (.bool false):=B1.o.ab (i:=0) rfl;have z1:w1.cell? ⟨w.heap.size,1,none⟩=some (.slice none 0 0):=B1.o.ab (i:=1) rfl
 have BZ:=xh ((B1.o.bu 0 (.bool false)).bu 1 (.slice none 0 0));have OZ:=xh (((((ag.aj (S:=[]) O1.o).setCell (p:=⟨w.heap.size,0,none⟩) (λh=>absurd h (by simp)) (.bool false)).setCell (p:=⟨w.heap.size,1,none⟩) (λh=>absurd h (by simp)) (.slice none 0 0))).cK);clear fr aL hv;obtain rfl:N=([]:List (List UInt8)).length+1:=by simpa using hN.symm
 obtain⟨g,rfl,ck⟩:=iN S1 0 (by simp);have hgw:w.heap.size<g:=uU g (by simp[ah]);have hgl:g<w1.heap.size:=S1.lt g (by simp[ah]);have hwl1:=B1.o.lt;have ED:w1.cell? ⟨g,0,none⟩=some (.string ⟨r0.toArray⟩):=ck;have S1:=xh S1;have Ex:([]:List (List UInt8)).length<=56:=nH hm;have pG:([]:List (List UInt8)).length+1<=nr/\nr<=maxLen:=by
  obtain⟨r,_,h1,_,h2⟩:=S1.o.oO;simp at h1;exact⟨by first|omega|(simp;omega),h2⟩
 clear ck uU KA hN hm;obtain⟨K0,xa⟩:∃K0:ByteArray,(⟨r0.toArray⟩:ByteArray)=K0:=⟨_,rfl⟩;rw[xa]at ED;have BH:K0.toList=r0:=by rw[dk,<-xa]
 clear xa;have hk:K0.toList=[1]:=by rw[BH];exact xy
 have IB:=xh xy;have k1:(K0.toList==[1])=true:=by rw[hk];decide
 have k2:(K0.toList==[2])=false:=by rw[hk];decide
 have k3:K0.toList=[1]:=by rw[hk]
 clear BH hk;have R0:=xh (show aD (w1.alloc (.cells #[.bool true,.slice none 0 0] 118)) w1.heap.size 118 #[.bool true,.slice none 0 0]from aD.new w1 _ _);have R2:=xh (B1.o.alloc (.cells #[.bool true,.slice none 0 0] 118));have RO:=xh (ao O1.o (ae (Below.refl _ _) (.cells #[.bool true,.slice none 0 0] 118)));have BJ:=xh (show jV [r0]=true from by simp[jV,IB.o])
 have HM:=xh (show cu ([]:List E) true from λi hi=>absurd hi (jP _));have BL:=xh (show fE [r0]from⟨by rw[IB.o];simp,by simp,by rw[BJ.o];exact HM.o⟩)
 by_cases l5:nr=1
 all_goals
  go_wp2_with fail;generalize hW6:(w1.alloc (.cells #[.bool true,.slice none 0 0] 118))=W6 at *;clear hW6 f0 f1 z0 z1 ED;have KM:=xh (mi (w:=W6) true none 0 0 [] (show kW W6 none 0 []from⟨rfl,λk e h=>by simp at h⟩) (by omega));unfold aV at KM
  go_loopw [46] (λiv wr=>iv=.int .i64 0/\wr=W6) (λ_ _=>0)
  case atStart=>exact⟨rfl,rfl⟩
  case round=>
   obtain⟨rfl,rfl⟩:=hrel;have d0:wr.cell? ⟨w1.heap.size,0,none⟩=some (.bool true):=R0.o.ab (i:=0) rfl;have d1:wr.cell? ⟨w1.heap.size,1,none⟩=some (.slice none 0 0):=R0.o.ab (i:=1) rfl;go_wp2_with fail;refine KM.o.mono ?_;rintro e' w2 ⟨⟨b,rfl,hb⟩,bK⟩;obtain rfl:=hb.2 HM.o;have CW:=R2.o.below bK R2.o.lt;have CN:=R0.o.below bK R0.o.lt;have f0:w2.frozen? ⟨w.heap.size,0,none⟩=false:=CW.frozen 0 (by simp)
   have f1:w2.frozen? ⟨w.heap.size,1,none⟩=false:=CW.frozen 1 (by simp);have z0:w2.cell? ⟨w.heap.size,0,none⟩=some (.bool false):=CW.ab (i:=0) rfl;have z1:w2.cell? ⟨w.heap.size,1,none⟩=some (.slice none 0 0):=CW.ab (i:=1) rfl;have y0:w2.cell? ⟨w1.heap.size,0,none⟩=some (.bool true):=CN.ab (i:=0) rfl;have y1:w2.cell? ⟨w1.heap.size,1,none⟩=some (.slice none 0 0):=CN.ab (i:=1) rfl;have IC:=R2.o.lt;have CX:=xh ((CW.bu 0 (.bool true)).bu 1 (.slice none 0 0))
   have OX:=xh ((((ag.aj (S:=[]) (ao RO.o bK)).setCell (p:=⟨w.heap.size,0,none⟩) (λh=>absurd h (by simp)) (.bool true)).setCell (p:=⟨w.heap.size,1,none⟩) (λh=>absurd h (by simp)) (.slice none 0 0)).cK);clear CW CN bK hb d0 d1;go_wp2_with fail;exact bodyPost_ret (dS rfl rfl CX.o) rfl ⟨.inr ⟨BL.o,none,0,0,by rw[BJ.o];rfl,aQ.nil _ _ _,xh (λx hx=>by simp[ah]at hx)⟩,OX.o⟩
theorem ud(s:ByteArray)(w:World)(hs:s.size<=1000000)(hq:bq s.data.toList=0)(r0:List UInt8)(rest:List (List UInt8))(xy:r0=[1])(eG:rest≠[])(kX:bQ s.data.toList=r0::rest):
  Calls Tryz.prog 122 #[.string s] w (jW (r0::rest) w):=by
 have B0:=aD.new w 118 #[.bool false,.slice none 0 0];have O0:=ae (Below.refl w.heap.size w) (.cells #[.bool false,.slice none 0 0] 118);have KA:=xh (jU s (w.alloc (.cells #[.bool false,.slice none 0 0] 118)) hs);unfold jW aV;have O0:=xh O0;have B0:=xh B0;have hS:=(cU _).1 hq;have hm:=js hS;have Ez:=xh (ir hS);have hN:=bI s.data.toList;obtain⟨N,sW⟩:∃N,bl s.data.toList 0=N:=⟨_,rfl⟩;unfold je at KA
 rw[hq,kX,sW]at KA;rw[kX,sW]at hN;rw[kX]at hm Ez;clear hS hq kX sW;go_enter Tryz.func122,Tryz.ntmps122;go_wp2_with fail;refine KA.o.mono ?_;rintro e w1 ⟨v,rfl,aL,fr,hv⟩;have S1:aQ w1 9 1 v N (strs (r0::rest)):=hv.elim (λh=>h.2) (λh=>absurd rfl h.1);have uU:∀x∈ah v,w.heap.size+1<=x:=λx hx=>by have:=fr x hx;rw[pN]at this;exact this
 obtain⟨V1,nr,rfl⟩:=aq S1;have O1:=xh (ao O0.o aL);have B1:=xh (B0.o.below aL B0.o.lt);have f0:w1.frozen? ⟨w.heap.size,0,none⟩=false:=B1.o.frozen 0 (by simp);have f1:w1.frozen? ⟨w.heap.size,1,none⟩=false:=B1.o.frozen 1 (by simp);have z0:w1.cell? ⟨w.heap.size,0,none⟩=some (.bool false):=B1.o.ab (i:=0) rfl;have z1:w1.cell? ⟨w.heap.size,1,none⟩=some (.slice none 0 0):=B1.o.ab (i:=1) rfl
 have BZ:=xh ((B1.o.bu 0 (.bool false)).bu 1 (.slice none 0 0));have OZ:=xh (((((ag.aj (S:=[]) O1.o).setCell (p:=⟨w.heap.size,0,none⟩) (λh=>absurd h (by simp)) (.bool false)).setCell (p:=⟨w.heap.size,1,none⟩) (λh=>absurd h (by simp)) (.slice none 0 0))).cK);clear fr aL hv;obtain rfl:N=rest.length+1:=by simpa using hN.symm
 obtain⟨g,rfl,ck⟩:=iN S1 0 (by simp);have hgw:w.heap.size<g:=uU g (by simp[ah]);have hgl:g<w1.heap.size:=S1.lt g (by simp[ah]);have hwl1:=B1.o.lt;have ED:w1.cell? ⟨g,0,none⟩=some (.string ⟨r0.toArray⟩):=ck;have S1:=xh S1;have Ex:rest.length<=56:=nH hm;have pG:rest.length+1<=nr/\nr<=maxLen:=by
  obtain⟨r,_,h1,_,h2⟩:=S1.o.oO;simp at h1;exact⟨by first|omega|(simp;omega),h2⟩
 clear ck uU KA hN hm;obtain⟨K0,xa⟩:∃K0:ByteArray,(⟨r0.toArray⟩:ByteArray)=K0:=⟨_,rfl⟩;rw[xa]at ED;have BH:K0.toList=r0:=by rw[dk,<-xa]
 clear xa;have hk:K0.toList=[1]:=by rw[BH];exact xy
 have IB:=xh xy;have k1:(K0.toList==[1])=true:=by rw[hk];decide
 have k2:(K0.toList==[2])=false:=by rw[hk];decide
 have k3:K0.toList=[1]:=by rw[hk]
 clear BH hk;have n1:¬(rest.length:Int)+1=0:=by omega
 have n2:((rest.length:Int)+1==0)=false:=by simpa using n1
 have l5:¬nr=1:=λh=>by
  have:0<rest.length:=rD.2 eG;omega
 have R0:=xh (show aD (w1.alloc (.cells #[.bool true,.slice none 0 0] 118)) w1.heap.size 118 #[.bool true,.slice none 0 0]from aD.new w1 _ _);have R2:=xh (B1.o.alloc (.cells #[.bool true,.slice none 0 0] 118));have RS:=xh (S1.o.alloc (.cells #[.bool true,.slice none 0 0] 118));have RO:=xh (ao O1.o (ae (Below.refl _ _) (.cells #[.bool true,.slice none 0 0] 118)));go_wp2_with fail;generalize hW6:(w1.alloc (.cells #[.bool true,.slice none 0 0] 118))=W6 at *
 clear hW6 f0 f1 z0 z1 ED
 go_loopw [46] (λiv wr=> ∃(i:Nat) (v':Value),i<=rest.length/\iv=.int .i64 i/\aD wr w1.heap.size 118 #[.bool true,v']/\aD wr w.heap.size 118 #[.bool false,.slice none 0 0]/\aQ wr 111 3 v' i (ax ((rest.take i).map λr=>eY ⟨r.toArray⟩))/\aQ wr 9 1 (.slice (some ⟨g,0,none⟩) (rest.length+1) nr) (rest.length+1) (strs (r0::rest))/\Hid (∀r∈rest.take i,fi ⟨r.toArray⟩)/\Below w.heap.size w wr/\Hid (∀x∈ah v',w1.heap.size+1<=x)) (λiv _=>rest.length-(intOf iv).toNat)
 case atStart=>exact⟨0,_,bm _,rfl,R0.o,R2.o,aQ.nil _ _ _,RS.o,xh (by simp),RO.o,xh (λx hx=>by simp[ah]at hx)⟩
 case round=>
  obtain⟨i,v',hi,rfl,C6,C2,S,RS,EO,O,F⟩:=hrel;obtain⟨VA,vc,rfl⟩:=aq S;have hltr:=C6.lt;have hg6:w1.heap.size∉ah (.slice VA i vc):=λhx=>by have:=F.o _ hx;omega
  have hg2:w.heap.size∉ah (.slice VA i vc):=λhx=>by have:=F.o _ hx;omega
  have Et:g∉ah (.slice VA i vc):=λhx=>by have:=F.o _ hx;omega
  by_cases h:i<rest.length
  .obtain⟨g',hgx,ck⟩:=iN RS (i+1) (by simp;omega);simp only[Option.some.injEq,Addr.mk.injEq,and_true]at hgx;subst hgx;have hri:(r0::rest)[i+1]'(by simp;omega)=rest[i]:=zW ..;rw[hri]at ck;have mS:rest[i].length<=232:=Ez.o _ (bY _ (ik h));have HT:=xh (iD h);obtain⟨T,hT⟩:∃T:ByteArray,(⟨rest[i].toArray⟩:ByteArray)=T:=⟨_,rfl⟩;have hTs:T.size<=232:=by rw[<-hT,Sl.size_of_list];exact mS
   rw[hT]at ck;have HTT:=xh hT;have ck2:wr.cell? ((⟨g,1,none⟩:Addr).add i)=some (.string T):=by rw[gU,qT];exact ck
   have hiI:(i:Int)<(rest.length:Int):=by omega
   have ck3:wr.cell? ⟨g,1+i,none⟩=some (.string T):=by rw[qT];exact ck
   clear hT hri mS
   by_cases ef:fi T
   .have KE:=xh (λw=>uX w T ef (by omega));have zF:=xh ef;obtain⟨e,he⟩:∃e,eY T=e:=⟨_,rfl⟩;rw[he]at KE;have HE:=xh he;have SL:=xh S;have CL:=xh C6;have xd:=xh C2;have RL:=xh RS;have OL:=xh O;unfold E.agg at KE;clear ef he S C6 C2 RS O;go_wp2_with fail;refine(KE.o _).mono ?_;rintro e' w2 ⟨rfl,bK⟩
    obtain⟨v2,w3,ea,S3,ow,f3⟩:=sU (P:=Tryz.prog) ((SL.o.below bK).alloc (.cells #[.string e.key,.string e.val,.int .i64 e.aY] 111)) 108 108 (.agg #[.string .empty,.string .empty,.int .i64 0]) 40 Tryz.underlying108 (by kernel_rfl) rfl e (by unfold maxLen;omega) (by omega);rw[pN]at ea;obtain⟨V2,fs,rfl⟩:=aq S3;have EA:=xh ea;have O2:=xh ((ag.aj (S:=ah (.slice VA i vc)) bK).alloc (.cells #[.string e.key,.string e.val,.int .i64 e.aY] 111))
    have OW:=O2.o.trans ow;have CW:=((CL.o.below bK CL.o.lt).alloc (.cells #[.string e.key,.string e.val,.int .i64 e.aY] 111)).only ow hg6;have c61:((w2.alloc (.cells #[.string e.key,.string e.val,.int .i64 e.aY] 111))).cell? ⟨w1.heap.size,1,none⟩=some (.slice VA i vc):=((CL.o.below bK CL.o.lt).alloc (.cells #[.string e.key,.string e.val,.int .i64 e.aY] 111)).ab (i:=1) rfl;have fz:w3.frozen? ⟨w1.heap.size,1,none⟩=false:=CW.frozen 1 (by simp)
    have cz:w3.cell? ⟨w1.heap.size,1,none⟩=some (.slice VA i vc):=CW.ab (i:=1) rfl;have hsz2:wr.heap.size<=w2.heap.size:=bK.size;have OX:=OW.mono (S':=w1.heap.size::ah (.slice VA i vc)) (λx hx _=>bY _ hx)|>.setCell (p:=⟨w1.heap.size,1,none⟩) (λ_=>by simp) (.slice V2 (i+1) fs);have CX:=xh (CW.bu 1 (.slice V2 (i+1) fs));have C2X:=xh (xd.o.only OX (by simp;exact⟨by omega,hg2⟩))
    have RX:=xh (RL.o.only OX (λx hx=>by simp[ah]at hx;subst hx;simp;exact⟨by omega,Et⟩));have nP:∀x∈ah (.slice V2 (i+1) fs),w1.heap.size+1<=x:=λx hx=>(f3 x hx).elim (F.o x) (λh=>by rw[pN]at h;omega);have FX:=xh nP;have SX:=xh (S3.only ((ag.refl [w1.heap.size] w3).setCell (p:=⟨w1.heap.size,1,none⟩) (λ_=>by simp) (.slice V2 (i+1) fs)) (λx hx=>by have:=nP x hx;simp;omega))
    have OB:=xh (OL.o.trans (OX.aE OL.o.size (λx hx=>by
     rcases aC.1 hx with rfl|hx
     .omega
     .have:=F.o x hx;omega)))
    have HSX:=xh (show ax ((rest.take (i+1)).map λr=>eY ⟨r.toArray⟩)=ax ((rest.take i).map λr=>eY ⟨r.toArray⟩)++e.cells from by
     rw[HT.o,eh,eI,eW,HTT.o,HE.o];simp[ax])
    have EX:=xh (show ∀r∈rest.take (i+1),fi ⟨r.toArray⟩from λr hr=>by
     rw[HT.o]at hr
     rcases aS.1 hr with hr|hr
     .exact EO.o r hr
     .simp only[cg]at hr;rw[hr,HTT.o];exact zF.o)
    clear ea S3 ow f3 OW CW OX nP bK;go_wp2_with fail;rw[EA.o];go_wp2_with fail;go_roundw
    case rel=>exact⟨i+1,_,by omega,by go_num,CX.o,C2X.o,by rw[HSX.o];exact SX.o,RX.o,EX,OB.o,FX⟩
    case measure=>simp[intOf];omega
   .have KE:=xh (λw=>yB w T ef);have zF:=xh ef;have HNO:=xh (show ¬fE (r0::rest)from λhx=>ef (by rw[<-HTT.o];exact hx.2.1 _ (by rw[iC];exact ik h)));have xd:=xh C2;have OL:=xh O;unfold E.agg E.zero at KE;clear ef S C6 C2 RS O;go_wp2_with fail;refine(KE.o _).mono ?_;rintro e' w2 ⟨rfl,bK⟩;have CW:=(xd.o.below bK xd.o.lt).alloc (.cells #[.string .empty,.string .empty,.int .i64 0] 111)
    have f0:(w2.alloc (.cells #[.string .empty,.string .empty,.int .i64 0] 111)).frozen? ⟨w.heap.size,0,none⟩=false:=CW.frozen 0 (by simp);have f1:(w2.alloc (.cells #[.string .empty,.string .empty,.int .i64 0] 111)).frozen? ⟨w.heap.size,1,none⟩=false:=CW.frozen 1 (by simp);have z0:(w2.alloc (.cells #[.string .empty,.string .empty,.int .i64 0] 111)).cell? ⟨w.heap.size,0,none⟩=some (.bool false):=CW.ab (i:=0) rfl
    have z1:(w2.alloc (.cells #[.string .empty,.string .empty,.int .i64 0] 111)).cell? ⟨w.heap.size,1,none⟩=some (.slice none 0 0):=CW.ab (i:=1) rfl;have CX:=xh ((CW.bu 0 (.bool false)).bu 1 (.slice none 0 0))
    have OX:=xh ((((ag.aj (S:=[]) (ao OL.o (ae bK (.cells #[.string .empty,.string .empty,.int .i64 0] 111)))).setCell (p:=⟨w.heap.size,0,none⟩) (λh=>absurd h (by simp)) (.bool false)).setCell (p:=⟨w.heap.size,1,none⟩) (λh=>absurd h (by simp)) (.slice none 0 0)).cK);have IC:=xd.o.lt;clear CW bK;go_wp2_with fail;exact bodyPost_ret (dS rfl rfl CX.o) rfl ⟨.inl ⟨HNO.o,rfl⟩,OX.o⟩
  .obtain rfl:i=rest.length:=by omega
   rw[jO]at S EO;have HE:=xh (show iP (r0::rest)=rest.map λr=>eY ⟨r.toArray⟩from rfl);have BJ:=xh (show jV (r0::rest)=true from by simp[jV,IB.o]);rw[<-HE.o]at S;obtain⟨-,EN⟩:=aQ.ax S;have KM:=xh (mi (w:=wr) true VA rest.length vc (iP (r0::rest)) EN (by omega))
   have HF:=xh (show(cu (iP (r0::rest)) true->fE (r0::rest))/\(fE (r0::rest)->cu (iP (r0::rest)) true)from⟨λhm=>⟨by rw[IB.o];simp,EO.o,by rw[BJ.o];exact hm⟩,λhx=>by have:=hx.2.2;rw[BJ.o]at this;exact this⟩);have d0:wr.cell? ⟨w1.heap.size,0,none⟩=some (.bool true):=C6.ab (i:=0) rfl;have d1:wr.cell? ⟨w1.heap.size,1,none⟩=some (.slice VA rest.length vc):=C6.ab (i:=1) rfl;have SL:=xh S;have CL:=xh C6;have xd:=xh C2
   have OL:=xh O;unfold aV at KM;clear S C6 C2 RS O EN;go_wp2_with fail;refine KM.o.mono ?_;rintro e' w2 ⟨⟨b,rfl,hb⟩,bK⟩;have CW:=xd.o.below bK xd.o.lt;have CN:=CL.o.below bK CL.o.lt;have f0:w2.frozen? ⟨w.heap.size,0,none⟩=false:=CW.frozen 0 (by simp);have f1:w2.frozen? ⟨w.heap.size,1,none⟩=false:=CW.frozen 1 (by simp);have z0:w2.cell? ⟨w.heap.size,0,none⟩=some (.bool false):=CW.ab (i:=0) rfl
   have z1:w2.cell? ⟨w.heap.size,1,none⟩=some (.slice none 0 0):=CW.ab (i:=1) rfl;have y0:w2.cell? ⟨w1.heap.size,0,none⟩=some (.bool true):=CN.ab (i:=0) rfl;have y1:w2.cell? ⟨w1.heap.size,1,none⟩=some (.slice VA rest.length vc):=CN.ab (i:=1) rfl;have IC:=xd.o.lt
   cases b
   .have HNO:=xh (show ¬fE (r0::rest)from λhx=>by have:=hb.2 (HF.o.2 hx);cases this);have CX:=xh ((CW.bu 0 (.bool false)).bu 1 (.slice none 0 0));have OX:=xh ((((ag.aj (S:=[]) (ao OL.o bK)).setCell (p:=⟨w.heap.size,0,none⟩) (λh=>absurd h (by simp)) (.bool false)).setCell (p:=⟨w.heap.size,1,none⟩) (λh=>absurd h (by simp)) (.slice none 0 0)).cK);clear CW CN bK hb d0 d1;go_wp2_with fail
    exact bodyPost_ret (dS rfl rfl CX.o) rfl ⟨.inl ⟨HNO.o,rfl⟩,OX.o⟩
   .have BL:=xh (HF.o.1 (hb.1 rfl));have CX:=xh ((CW.bu 0 (.bool true)).bu 1 (.slice VA rest.length vc));have OX:=xh ((((ag.aj (S:=[]) (ao OL.o bK)).setCell (p:=⟨w.heap.size,0,none⟩) (λh=>absurd h (by simp)) (.bool true)).setCell (p:=⟨w.heap.size,1,none⟩) (λh=>absurd h (by simp)) (.slice VA rest.length vc)).cK)
    have SX:=xh ((SL.o.below bK).only (((ag.refl [w.heap.size] w2).setCell (p:=⟨w.heap.size,0,none⟩) (λ_=>by simp) (.bool true)).setCell (p:=⟨w.heap.size,1,none⟩) (λ_=>by simp) (.slice VA rest.length vc)) (λx hx=>by simp;exact λhxx=>hg2 (hxx▸hx)));clear CW CN bK hb d0 d1;go_wp2_with fail;exact bodyPost_ret (dS rfl rfl CX.o) rfl ⟨.inr (⟨BL.o,VA,rest.length,vc,by rw[BJ.o];rfl,SX.o,xh (λx hx=>by have:=F.o x hx;omega)⟩),OX.o⟩
theorem ue(s:ByteArray)(w:World)(hs:s.size<=1000000)(hq:bq s.data.toList=0)(r0:List UInt8)(xy:r0=[2])(kX:bQ s.data.toList=[r0]):
  Calls Tryz.prog 122 #[.string s] w (jW ([r0]) w):=by
 have B0:=aD.new w 118 #[.bool false,.slice none 0 0];have O0:=ae (Below.refl w.heap.size w) (.cells #[.bool false,.slice none 0 0] 118);have KA:=xh (jU s (w.alloc (.cells #[.bool false,.slice none 0 0] 118)) hs);unfold jW aV;have O0:=xh O0;have B0:=xh B0;have hS:=(cU _).1 hq;have hm:=js hS;have Ez:=xh (ir hS);have hN:=bI s.data.toList;obtain⟨N,sW⟩:∃N,bl s.data.toList 0=N:=⟨_,rfl⟩;unfold je at KA
 rw[hq,kX,sW]at KA;rw[kX,sW]at hN;rw[kX]at hm Ez;clear hS hq kX sW;go_enter Tryz.func122,Tryz.ntmps122;go_wp2_with fail;refine KA.o.mono ?_;rintro e w1 ⟨v,rfl,aL,fr,hv⟩;have S1:aQ w1 9 1 v N (strs [r0]):=hv.elim (λh=>h.2) (λh=>absurd rfl h.1);have uU:∀x∈ah v,w.heap.size+1<=x:=λx hx=>by have:=fr x hx;rw[pN]at this;exact this
 obtain⟨V1,nr,rfl⟩:=aq S1;have O1:=xh (ao O0.o aL);have B1:=xh (B0.o.below aL B0.o.lt);have f0:w1.frozen? ⟨w.heap.size,0,none⟩=false:=B1.o.frozen 0 (by simp);have f1:w1.frozen? ⟨w.heap.size,1,none⟩=false:=B1.o.frozen 1 (by simp);have z0:w1.cell? ⟨w.heap.size,0,none⟩=some (.bool false):=B1.o.ab (i:=0) rfl;have z1:w1.cell? ⟨w.heap.size,1,none⟩=some (.slice none 0 0):=B1.o.ab (i:=1) rfl
 have BZ:=xh ((B1.o.bu 0 (.bool false)).bu 1 (.slice none 0 0));have OZ:=xh (((((ag.aj (S:=[]) O1.o).setCell (p:=⟨w.heap.size,0,none⟩) (λh=>absurd h (by simp)) (.bool false)).setCell (p:=⟨w.heap.size,1,none⟩) (λh=>absurd h (by simp)) (.slice none 0 0))).cK);clear fr aL hv;obtain rfl:N=([]:List (List UInt8)).length+1:=by simpa using hN.symm
 obtain⟨g,rfl,ck⟩:=iN S1 0 (by simp);have hgw:w.heap.size<g:=uU g (by simp[ah]);have hgl:g<w1.heap.size:=S1.lt g (by simp[ah]);have hwl1:=B1.o.lt;have ED:w1.cell? ⟨g,0,none⟩=some (.string ⟨r0.toArray⟩):=ck;have S1:=xh S1;have Ex:([]:List (List UInt8)).length<=56:=nH hm;have pG:([]:List (List UInt8)).length+1<=nr/\nr<=maxLen:=by
  obtain⟨r,_,h1,_,h2⟩:=S1.o.oO;simp at h1;exact⟨by first|omega|(simp;omega),h2⟩
 clear ck uU KA hN hm;obtain⟨K0,xa⟩:∃K0:ByteArray,(⟨r0.toArray⟩:ByteArray)=K0:=⟨_,rfl⟩;rw[xa]at ED;have BH:K0.toList=r0:=by rw[dk,<-xa]
 clear xa;have hk:K0.toList=[2]:=by rw[BH];exact xy
 have IB:=xh xy;have k1:(K0.toList==[1])=false:=by rw[hk];decide
 have k2:(K0.toList==[2])=true:=by rw[hk];decide
 have k3:¬K0.toList=[1]:=by rw[hk];decide
 clear BH hk;have R0:=xh (show aD (w1.alloc (.cells #[.bool false,.slice none 0 0] 118)) w1.heap.size 118 #[.bool false,.slice none 0 0]from aD.new w1 _ _);have R2:=xh (B1.o.alloc (.cells #[.bool false,.slice none 0 0] 118));have RO:=xh (ao O1.o (ae (Below.refl _ _) (.cells #[.bool false,.slice none 0 0] 118)));have BJ:=xh (show jV [r0]=false from by simp[jV,IB.o])
 have HM:=xh (show cu ([]:List E) false from λi hi=>absurd hi (jP _));have BL:=xh (show fE [r0]from⟨by rw[IB.o];simp,by simp,by rw[BJ.o];exact HM.o⟩)
 by_cases l5:nr=1
 all_goals
  go_wp2_with fail;generalize hW6:(w1.alloc (.cells #[.bool false,.slice none 0 0] 118))=W6 at *;clear hW6 f0 f1 z0 z1 ED;have KM:=xh (mi (w:=W6) false none 0 0 [] (show kW W6 none 0 []from⟨rfl,λk e h=>by simp at h⟩) (by omega));unfold aV at KM
  go_loopw [46] (λiv wr=>iv=.int .i64 0/\wr=W6) (λ_ _=>0)
  case atStart=>exact⟨rfl,rfl⟩
  case round=>
   obtain⟨rfl,rfl⟩:=hrel;have d0:wr.cell? ⟨w1.heap.size,0,none⟩=some (.bool false):=R0.o.ab (i:=0) rfl;have d1:wr.cell? ⟨w1.heap.size,1,none⟩=some (.slice none 0 0):=R0.o.ab (i:=1) rfl;go_wp2_with fail;refine KM.o.mono ?_;rintro e' w2 ⟨⟨b,rfl,hb⟩,bK⟩;obtain rfl:=hb.2 HM.o;have CW:=R2.o.below bK R2.o.lt;have CN:=R0.o.below bK R0.o.lt;have f0:w2.frozen? ⟨w.heap.size,0,none⟩=false:=CW.frozen 0 (by simp)
   have f1:w2.frozen? ⟨w.heap.size,1,none⟩=false:=CW.frozen 1 (by simp);have z0:w2.cell? ⟨w.heap.size,0,none⟩=some (.bool false):=CW.ab (i:=0) rfl;have z1:w2.cell? ⟨w.heap.size,1,none⟩=some (.slice none 0 0):=CW.ab (i:=1) rfl;have y0:w2.cell? ⟨w1.heap.size,0,none⟩=some (.bool false):=CN.ab (i:=0) rfl;have y1:w2.cell? ⟨w1.heap.size,1,none⟩=some (.slice none 0 0):=CN.ab (i:=1) rfl;have IC:=R2.o.lt;have CX:=xh ((CW.bu 0 (.bool false)).bu 1 (.slice none 0 0))
   have OX:=xh ((((ag.aj (S:=[]) (ao RO.o bK)).setCell (p:=⟨w.heap.size,0,none⟩) (λh=>absurd h (by simp)) (.bool false)).setCell (p:=⟨w.heap.size,1,none⟩) (λh=>absurd h (by simp)) (.slice none 0 0)).cK);clear CW CN bK hb d0 d1;go_wp2_with fail;exact bodyPost_ret (dS rfl rfl CX.o) rfl ⟨.inr ⟨BL.o,none,0,0,by rw[BJ.o];rfl,aQ.nil _ _ _,xh (λx hx=>by simp[ah]at hx)⟩,OX.o⟩
theorem sX(s:ByteArray)(w:World)(hs:s.size<=1000000)(hq:bq s.data.toList=0)(r0:List UInt8)(rest:List (List UInt8))(xy:r0=[2])(eG:rest≠[])(kX:bQ s.data.toList=r0::rest):
  Calls Tryz.prog 122 #[.string s] w (jW (r0::rest) w):=by
 have B0:=aD.new w 118 #[.bool false,.slice none 0 0];have O0:=ae (Below.refl w.heap.size w) (.cells #[.bool false,.slice none 0 0] 118);have KA:=xh (jU s (w.alloc (.cells #[.bool false,.slice none 0 0] 118)) hs);unfold jW aV;have O0:=xh O0;have B0:=xh B0;have hS:=(cU _).1 hq;have hm:=js hS;have Ez:=xh (ir hS);have hN:=bI s.data.toList;obtain⟨N,sW⟩:∃N,bl s.data.toList 0=N:=⟨_,rfl⟩;unfold je at KA
 rw[hq,kX,sW]at KA;rw[kX,sW]at hN;rw[kX]at hm Ez;clear hS hq kX sW;go_enter Tryz.func122,Tryz.ntmps122;go_wp2_with fail;refine KA.o.mono ?_;rintro e w1 ⟨v,rfl,aL,fr,hv⟩;have S1:aQ w1 9 1 v N (strs (r0::rest)):=hv.elim (λh=>h.2) (λh=>absurd rfl h.1);have uU:∀x∈ah v,w.heap.size+1<=x:=λx hx=>by have:=fr x hx;rw[pN]at this;exact this
 obtain⟨V1,nr,rfl⟩:=aq S1;have O1:=xh (ao O0.o aL);have B1:=xh (B0.o.below aL B0.o.lt);have f0:w1.frozen? ⟨w.heap.size,0,none⟩=false:=B1.o.frozen 0 (by simp);have f1:w1.frozen? ⟨w.heap.size,1,none⟩=false:=B1.o.frozen 1 (by simp);have z0:w1.cell? ⟨w.heap.size,0,none⟩=some (.bool false):=B1.o.ab (i:=0) rfl;have z1:w1.cell? ⟨w.heap.size,1,none⟩=some (.slice none 0 0):=B1.o.ab (i:=1) rfl
 have BZ:=xh ((B1.o.bu 0 (.bool false)).bu 1 (.slice none 0 0));have OZ:=xh (((((ag.aj (S:=[]) O1.o).setCell (p:=⟨w.heap.size,0,none⟩) (λh=>absurd h (by simp)) (.bool false)).setCell (p:=⟨w.heap.size,1,none⟩) (λh=>absurd h (by simp)) (.slice none 0 0))).cK);clear fr aL hv;obtain rfl:N=rest.length+1:=by simpa using hN.symm
 obtain⟨g,rfl,ck⟩:=iN S1 0 (by simp);have hgw:w.heap.size<g:=uU g (by simp[ah]);have hgl:g<w1.heap.size:=S1.lt g (by simp[ah]);have hwl1:=B1.o.lt;have ED:w1.cell? ⟨g,0,none⟩=some (.string ⟨r0.toArray⟩):=ck;have S1:=xh S1;have Ex:rest.length<=56:=nH hm;have pG:rest.length+1<=nr/\nr<=maxLen:=by
  obtain⟨r,_,h1,_,h2⟩:=S1.o.oO;simp at h1;exact⟨by first|omega|(simp;omega),h2⟩
 clear ck uU KA hN hm;obtain⟨K0,xa⟩:∃K0:ByteArray,(⟨r0.toArray⟩:ByteArray)=K0:=⟨_,rfl⟩;rw[xa]at ED;have BH:K0.toList=r0:=by rw[dk,<-xa]
 clear xa;have hk:K0.toList=[2]:=by rw[BH];exact xy
 have IB:=xh xy;have k1:(K0.toList==[1])=false:=by rw[hk];decide
 have k2:(K0.toList==[2])=true:=by rw[hk];decide
 have k3:¬K0.toList=[1]:=by rw[hk];decide
 clear BH hk;have n1:¬(rest.length:Int)+1=0:=by omega
 have n2:((rest.length:Int)+1==0)=false:=by simpa using n1
 have l5:¬nr=1:=λh=>by
  have:0<rest.length:=rD.2 eG;omega
 have R0:=xh (show aD (w1.alloc (.cells #[.bool false,.slice none 0 0] 118)) w1.heap.size 118 #[.bool false,.slice none 0 0]from aD.new w1 _ _);have R2:=xh (B1.o.alloc (.cells #[.bool false,.slice none 0 0] 118));have RS:=xh (S1.o.alloc (.cells #[.bool false,.slice none 0 0] 118));have RO:=xh (ao O1.o (ae (Below.refl _ _) (.cells #[.bool false,.slice none 0 0] 118)));go_wp2_with fail
 generalize hW6:(w1.alloc (.cells #[.bool false,.slice none 0 0] 118))=W6 at *;clear hW6 f0 f1 z0 z1 ED
 go_loopw [46] (λiv wr=> ∃(i:Nat) (v':Value),i<=rest.length/\iv=.int .i64 i/\aD wr w1.heap.size 118 #[.bool false,v']/\aD wr w.heap.size 118 #[.bool false,.slice none 0 0]/\aQ wr 111 3 v' i (ax ((rest.take i).map λr=>eY ⟨r.toArray⟩))/\aQ wr 9 1 (.slice (some ⟨g,0,none⟩) (rest.length+1) nr) (rest.length+1) (strs (r0::rest))/\Hid (∀r∈rest.take i,fi ⟨r.toArray⟩)/\Below w.heap.size w wr/\Hid (∀x∈ah v',w1.heap.size+1<=x)) (λiv _=>rest.length-(intOf iv).toNat)
 case atStart=>exact⟨0,_,bm _,rfl,R0.o,R2.o,aQ.nil _ _ _,RS.o,xh (by simp),RO.o,xh (λx hx=>by simp[ah]at hx)⟩
 case round=>
  obtain⟨i,v',hi,rfl,C6,C2,S,RS,EO,O,F⟩:=hrel;obtain⟨VA,vc,rfl⟩:=aq S;have hltr:=C6.lt;have hg6:w1.heap.size∉ah (.slice VA i vc):=λhx=>by have:=F.o _ hx;omega
  have hg2:w.heap.size∉ah (.slice VA i vc):=λhx=>by have:=F.o _ hx;omega
  have Et:g∉ah (.slice VA i vc):=λhx=>by have:=F.o _ hx;omega
  by_cases h:i<rest.length
  .obtain⟨g',hgx,ck⟩:=iN RS (i+1) (by simp;omega);simp only[Option.some.injEq,Addr.mk.injEq,and_true]at hgx;subst hgx;have hri:(r0::rest)[i+1]'(by simp;omega)=rest[i]:=zW ..;rw[hri]at ck;have mS:rest[i].length<=232:=Ez.o _ (bY _ (ik h));have HT:=xh (iD h);obtain⟨T,hT⟩:∃T:ByteArray,(⟨rest[i].toArray⟩:ByteArray)=T:=⟨_,rfl⟩;have hTs:T.size<=232:=by rw[<-hT,Sl.size_of_list];exact mS
   rw[hT]at ck;have HTT:=xh hT;have ck2:wr.cell? ((⟨g,1,none⟩:Addr).add i)=some (.string T):=by rw[gU,qT];exact ck
   have hiI:(i:Int)<(rest.length:Int):=by omega
   have ck3:wr.cell? ⟨g,1+i,none⟩=some (.string T):=by rw[qT];exact ck
   clear hT hri mS
   by_cases ef:fi T
   .have KE:=xh (λw=>uX w T ef (by omega));have zF:=xh ef;obtain⟨e,he⟩:∃e,eY T=e:=⟨_,rfl⟩;rw[he]at KE;have HE:=xh he;have SL:=xh S;have CL:=xh C6;have xd:=xh C2;have RL:=xh RS;have OL:=xh O;unfold E.agg at KE;clear ef he S C6 C2 RS O;go_wp2_with fail;refine(KE.o _).mono ?_;rintro e' w2 ⟨rfl,bK⟩
    obtain⟨v2,w3,ea,S3,ow,f3⟩:=sU (P:=Tryz.prog) ((SL.o.below bK).alloc (.cells #[.string e.key,.string e.val,.int .i64 e.aY] 111)) 108 108 (.agg #[.string .empty,.string .empty,.int .i64 0]) 40 Tryz.underlying108 (by kernel_rfl) rfl e (by unfold maxLen;omega) (by omega);rw[pN]at ea;obtain⟨V2,fs,rfl⟩:=aq S3;have EA:=xh ea;have O2:=xh ((ag.aj (S:=ah (.slice VA i vc)) bK).alloc (.cells #[.string e.key,.string e.val,.int .i64 e.aY] 111))
    have OW:=O2.o.trans ow;have CW:=((CL.o.below bK CL.o.lt).alloc (.cells #[.string e.key,.string e.val,.int .i64 e.aY] 111)).only ow hg6;have c61:((w2.alloc (.cells #[.string e.key,.string e.val,.int .i64 e.aY] 111))).cell? ⟨w1.heap.size,1,none⟩=some (.slice VA i vc):=((CL.o.below bK CL.o.lt).alloc (.cells #[.string e.key,.string e.val,.int .i64 e.aY] 111)).ab (i:=1) rfl;have fz:w3.frozen? ⟨w1.heap.size,1,none⟩=false:=CW.frozen 1 (by simp)
    have cz:w3.cell? ⟨w1.heap.size,1,none⟩=some (.slice VA i vc):=CW.ab (i:=1) rfl;have hsz2:wr.heap.size<=w2.heap.size:=bK.size;have OX:=OW.mono (S':=w1.heap.size::ah (.slice VA i vc)) (λx hx _=>bY _ hx)|>.setCell (p:=⟨w1.heap.size,1,none⟩) (λ_=>by simp) (.slice V2 (i+1) fs);have CX:=xh (CW.bu 1 (.slice V2 (i+1) fs));have C2X:=xh (xd.o.only OX (by simp;exact⟨by omega,hg2⟩))
    have RX:=xh (RL.o.only OX (λx hx=>by simp[ah]at hx;subst hx;simp;exact⟨by omega,Et⟩));have nP:∀x∈ah (.slice V2 (i+1) fs),w1.heap.size+1<=x:=λx hx=>(f3 x hx).elim (F.o x) (λh=>by rw[pN]at h;omega);have FX:=xh nP;have SX:=xh (S3.only ((ag.refl [w1.heap.size] w3).setCell (p:=⟨w1.heap.size,1,none⟩) (λ_=>by simp) (.slice V2 (i+1) fs)) (λx hx=>by have:=nP x hx;simp;omega))
    have OB:=xh (OL.o.trans (OX.aE OL.o.size (λx hx=>by
     rcases aC.1 hx with rfl|hx
     .omega
     .have:=F.o x hx;omega)))
    have HSX:=xh (show ax ((rest.take (i+1)).map λr=>eY ⟨r.toArray⟩)=ax ((rest.take i).map λr=>eY ⟨r.toArray⟩)++e.cells from by
     rw[HT.o,eh,eI,eW,HTT.o,HE.o];simp[ax])
    have EX:=xh (show ∀r∈rest.take (i+1),fi ⟨r.toArray⟩from λr hr=>by
     rw[HT.o]at hr
     rcases aS.1 hr with hr|hr
     .exact EO.o r hr
     .simp only[cg]at hr;rw[hr,HTT.o];exact zF.o)
    clear ea S3 ow f3 OW CW OX nP bK;go_wp2_with fail;rw[EA.o];go_wp2_with fail;go_roundw
    case rel=>exact⟨i+1,_,by omega,by go_num,CX.o,C2X.o,by rw[HSX.o];exact SX.o,RX.o,EX,OB.o,FX⟩
    case measure=>simp[intOf];omega
   .have KE:=xh (λw=>yB w T ef);have zF:=xh ef;have HNO:=xh (show ¬fE (r0::rest)from λhx=>ef (by rw[<-HTT.o];exact hx.2.1 _ (by rw[iC];exact ik h)));have xd:=xh C2;have OL:=xh O;unfold E.agg E.zero at KE;clear ef S C6 C2 RS O;go_wp2_with fail;refine(KE.o _).mono ?_;rintro e' w2 ⟨rfl,bK⟩;have CW:=(xd.o.below bK xd.o.lt).alloc (.cells #[.string .empty,.string .empty,.int .i64 0] 111)
    have f0:(w2.alloc (.cells #[.string .empty,.string .empty,.int .i64 0] 111)).frozen? ⟨w.heap.size,0,none⟩=false:=CW.frozen 0 (by simp);have f1:(w2.alloc (.cells #[.string .empty,.string .empty,.int .i64 0] 111)).frozen? ⟨w.heap.size,1,none⟩=false:=CW.frozen 1 (by simp);have z0:(w2.alloc (.cells #[.string .empty,.string .empty,.int .i64 0] 111)).cell? ⟨w.heap.size,0,none⟩=some (.bool false):=CW.ab (i:=0) rfl
    have z1:(w2.alloc (.cells #[.string .empty,.string .empty,.int .i64 0] 111)).cell? ⟨w.heap.size,1,none⟩=some (.slice none 0 0):=CW.ab (i:=1) rfl;have CX:=xh ((CW.bu 0 (.bool false)).bu 1 (.slice none 0 0))
    have OX:=xh ((((ag.aj (S:=[]) (ao OL.o (ae bK (.cells #[.string .empty,.string .empty,.int .i64 0] 111)))).setCell (p:=⟨w.heap.size,0,none⟩) (λh=>absurd h (by simp)) (.bool false)).setCell (p:=⟨w.heap.size,1,none⟩) (λh=>absurd h (by simp)) (.slice none 0 0)).cK);have IC:=xd.o.lt;clear CW bK;go_wp2_with fail;exact bodyPost_ret (dS rfl rfl CX.o) rfl ⟨.inl ⟨HNO.o,rfl⟩,OX.o⟩
  .obtain rfl:i=rest.length:=by omega
   rw[jO]at S EO;have HE:=xh (show iP (r0::rest)=rest.map λr=>eY ⟨r.toArray⟩from rfl);have BJ:=xh (show jV (r0::rest)=false from by simp[jV,IB.o]);rw[<-HE.o]at S;obtain⟨-,EN⟩:=aQ.ax S;have KM:=xh (mi (w:=wr) false VA rest.length vc (iP (r0::rest)) EN (by omega))
   have HF:=xh (show(cu (iP (r0::rest)) false->fE (r0::rest))/\(fE (r0::rest)->cu (iP (r0::rest)) false)from⟨λhm=>⟨by rw[IB.o];simp,EO.o,by rw[BJ.o];exact hm⟩,λhx=>by have:=hx.2.2;rw[BJ.o]at this;exact this⟩);have d0:wr.cell? ⟨w1.heap.size,0,none⟩=some (.bool false):=C6.ab (i:=0) rfl;have d1:wr.cell? ⟨w1.heap.size,1,none⟩=some (.slice VA rest.length vc):=C6.ab (i:=1) rfl;have SL:=xh S;have CL:=xh C6;have xd:=xh C2
   have OL:=xh O;unfold aV at KM;clear S C6 C2 RS O EN;go_wp2_with fail;refine KM.o.mono ?_;rintro e' w2 ⟨⟨b,rfl,hb⟩,bK⟩;have CW:=xd.o.below bK xd.o.lt;have CN:=CL.o.below bK CL.o.lt;have f0:w2.frozen? ⟨w.heap.size,0,none⟩=false:=CW.frozen 0 (by simp);have f1:w2.frozen? ⟨w.heap.size,1,none⟩=false:=CW.frozen 1 (by simp);have z0:w2.cell? ⟨w.heap.size,0,none⟩=some (.bool false):=CW.ab (i:=0) rfl
   have z1:w2.cell? ⟨w.heap.size,1,none⟩=some (.slice none 0 0):=CW.ab (i:=1) rfl;have y0:w2.cell? ⟨w1.heap.size,0,none⟩=some (.bool false):=CN.ab (i:=0) rfl;have y1:w2.cell? ⟨w1.heap.size,1,none⟩=some (.slice VA rest.length vc):=CN.ab (i:=1) rfl;have IC:=xd.o.lt
   cases b
   .have HNO:=xh (show ¬fE (r0::rest)from λhx=>by have:=hb.2 (HF.o.2 hx);cases this);have CX:=xh ((CW.bu 0 (.bool false)).bu 1 (.slice none 0 0));have OX:=xh ((((ag.aj (S:=[]) (ao OL.o bK)).setCell (p:=⟨w.heap.size,0,none⟩) (λh=>absurd h (by simp)) (.bool false)).setCell (p:=⟨w.heap.size,1,none⟩) (λh=>absurd h (by simp)) (.slice none 0 0)).cK);clear CW CN bK hb d0 d1;go_wp2_with fail
    exact bodyPost_ret (dS rfl rfl CX.o) rfl ⟨.inl ⟨HNO.o,rfl⟩,OX.o⟩
   .have BL:=xh (HF.o.1 (hb.1 rfl));have CX:=xh ((CW.bu 0 (.bool false)).bu 1 (.slice VA rest.length vc));have OX:=xh ((((ag.aj (S:=[]) (ao OL.o bK)).setCell (p:=⟨w.heap.size,0,none⟩) (λh=>absurd h (by simp)) (.bool false)).setCell (p:=⟨w.heap.size,1,none⟩) (λh=>absurd h (by simp)) (.slice VA rest.length vc)).cK)
    have SX:=xh ((SL.o.below bK).only (((ag.refl [w.heap.size] w2).setCell (p:=⟨w.heap.size,0,none⟩) (λ_=>by simp) (.bool false)).setCell (p:=⟨w.heap.size,1,none⟩) (λ_=>by simp) (.slice VA rest.length vc)) (λx hx=>by simp;exact λhxx=>hg2 (hxx▸hx)));clear CW CN bK hb d0 d1;go_wp2_with fail;exact bodyPost_ret (dS rfl rfl CX.o) rfl ⟨.inr (⟨BL.o,VA,rest.length,vc,by rw[BJ.o];rfl,SX.o,xh (λx hx=>by have:=F.o x hx;omega)⟩),OX.o⟩
def xe(s:ByteArray)(w:World)(e:Ending)(w':World):Prop:=
 (bq s.data.toList≠0/\e=.returned (.tuple #[aV false none 0 0,.int .i64 (bq s.data.toList)])/\Below w.heap.size w w')\/(bq s.data.toList=0/\jW (bQ s.data.toList) w e w')
theorem got_any(s:ByteArray)(w:World)(hs:s.size<=1000000):
  Calls Tryz.prog 122 #[.string s] w (xe s w):=by
 by_cases hq:bq s.data.toList=0
 .have lift:∀{rs},bQ s.data.toList=rs->Calls Tryz.prog 122 #[.string s] w (jW rs w)->Calls Tryz.prog 122 #[.string s] w (xe s w):=λh k=>k.mono λe w' h2=> .inr ⟨hq,by rw[h];exact h2⟩
  match kX:bQ s.data.toList with
  |[]=>exact lift kX (got_nil s w hs hq kX)
  |r0::rest=>
   refine lift kX ?_
   by_cases h1:r0=[1]
   .by_cases eG:rest=[]
    .subst eG;exact xb s w hs hq r0 h1 kX
    .exact ud s w hs hq r0 rest h1 eG kX
   .by_cases h2:r0=[2]
    .by_cases eG:rest=[]
     .subst eG;exact ue s w hs hq r0 h2 kX
     .exact sX s w hs hq r0 rest h2 eG kX
    .exact got_odd s w hs hq r0 rest h1 h2 kX
 .have HQ:=xh hq;have B0:=aD.new w 118 #[.bool false,.slice none 0 0];have O0:=ae (Below.refl w.heap.size w) (.cells #[.bool false,.slice none 0 0] 118);have KA:=xh (jU s (w.alloc (.cells #[.bool false,.slice none 0 0] 118)) hs);unfold xe aV;have O0:=xh O0;have B0:=xh B0;unfold je at KA;generalize bq s.data.toList=q at *;go_enter Tryz.func122,Tryz.ntmps122;go_wp2_with fail;refine KA.o.mono ?_;rintro e w1 ⟨v,rfl,aL,fr,hv⟩
  rcases hv with⟨h0,-⟩|⟨-,rfl⟩
  .exact absurd h0 hq
  have O1:=xh (ao O0.o aL);have B1:=xh (B0.o.below aL B0.o.lt);have f0:w1.frozen? ⟨w.heap.size,0,none⟩=false:=B1.o.frozen 0 (by simp);have f1:w1.frozen? ⟨w.heap.size,1,none⟩=false:=B1.o.frozen 1 (by simp);have z0:w1.cell? ⟨w.heap.size,0,none⟩=some (.bool false):=B1.o.ab (i:=0) rfl;have z1:w1.cell? ⟨w.heap.size,1,none⟩=some (.slice none 0 0):=B1.o.ab (i:=1) rfl;have BZ:=xh ((B1.o.bu 0 (.bool false)).bu 1 (.slice none 0 0))
  have OZ:=xh (((((ag.aj (S:=[]) O1.o).setCell (p:=⟨w.heap.size,0,none⟩) (λh=>absurd h (by simp)) (.bool false)).setCell (p:=⟨w.heap.size,1,none⟩) (λh=>absurd h (by simp)) (.slice none 0 0))).cK);have q2:(q==0)=false:=by simpa using hq
  clear fr aL KA;go_wp2_with fail;exact bodyPost_ret (dS rfl rfl BZ.o) rfl (.inl ⟨HQ.o,rfl,OZ.o⟩)
end Go.Proofs.YtmonobkginiajaaGreat.Nd
namespace Go.Proofs.YtmonobkginiajaaGreat.Nd
open Go.RowKit Sl
variable{l:List E}{leaf:Bool}
theorem mj(e:E):(ou e).data.toList=lM e:=by simp[ou]
theorem EE(e:E):(lM e).drop 1=e.key.data.toList++(dV (e.aY+1).toNat++e.val.data.toList):=rfl
theorem sY(e:E)(h:e.key.size<=32):jG (ou e)=e.key.size:=by
 unfold jG;rw[mj];show(UInt8.ofNat e.key.size).toNat=e.key.size;rw[fV];omega
theorem vd(e:E):(ou e).size=3+e.key.size+e.val.size:=by
 unfold ou;rw[Sl.size_of_list,lN]
theorem yD(e:E)(h:e.key.size<=32):fi (ou e):=by
 unfold fi;rw[sY e h,vd];omega
theorem keyL(e:E):e.key.data.toList.length=e.key.size:=by simp
theorem BM(e:E)(h:e.key.size<=32)(h1: -1<=e.aY)(h2:e.aY<=511):eY (ou e)=e:=by
 obtain⟨m,hm⟩:=dn (show 0<=e.aY+1 by omega);have hk:=keyL e;have hd:=EE e;have d2:(lM e).drop (1+e.key.size)=dV (e.aY+1).toNat++e.val.data.toList:=by
  rw[<-fY,hd,vE (by omega),<-hk,List.drop_length,eA]
 have d3:(lM e).drop (3+e.key.size)=e.val.data.toList:=by
  rw[show 3+e.key.size=(1+e.key.size)+2 by omega,<-fY,d2];rfl
 unfold eY;rw[sY e h];have a1:(ou e).extract 1 (1+e.key.size)=e.key:=by
  rw[kV,mj,hd,lU (by omega),<-hk,jO]
 have a2:(ou e).extract (3+e.key.size) (ou e).size=e.val:=by
  rw[vd,kV,mj,d3,bJ (by simp)]
 have a3:bl (ou e).data.toList (1+e.key.size)=m:=by
  rw[mj];have g0:(lM e).getD (1+e.key.size) 0=UInt8.ofNat (m / 256):=by
   have:=congrArg (λl=>l.getD 0 0) d2;simp only[ig,gF,iE]at this;rw[ig,this,hm];rfl
  have g1:(lM e).getD (1+e.key.size+1) 0=UInt8.ofNat m:=by
   have:=congrArg (λl=>l.getD 1 0) d2;simp only[ig,gF]at this;rw[ig,this,hm];rfl
  unfold bl;rw[g0,g1,fV,fV];omega
 rw[a1,a2,a3];obtain⟨k,v,f⟩:=e;dsimp only at *;rw[show((m:Nat):Int)-1=f by omega]
theorem sZ(hm:cu l leaf)(e:E)(he:e∈l):e.key.size<=32/\e.val.size<=40/\ -1<=e.aY/\e.aY<=511:=by
 obtain⟨i,hi,rfl⟩:=lr he;have h2:=(sS l[i] leaf).1 (hm i hi l[i] (aN hi)).1;exact⟨h2.1,h2.2.1,h2.2.2.1,h2.2.2.2.1⟩
theorem ta(hm:cu l leaf):iP (fj leaf l)=l:=by
 unfold iP fj;rw[iC,oT];have:l.map ((λr=>eY ⟨r.toArray⟩) ∘ lM)=l.map id:=by
  apply jz;intro e he;obtain⟨b1,b2,b3,b4⟩:=sZ hm e he;exact BM e b1 b3 b4
 rw[this,List.map_id]
theorem td(leaf:Bool)(l:List E):jV (fj leaf l)=leaf:=by
 unfold jV fj uZ
 cases leaf<;>simp
theorem yE(hm:cu l leaf):fE (fj leaf l):=by
 refine⟨?_,?_,?_⟩
 .unfold fj uZ
  cases leaf<;>simp
 .intro r hr;unfold fj at hr;rw[iC]at hr;obtain⟨e,he,rfl⟩:=eo.1 hr;exact yD e (sZ hm e he).1
 .rw[ta hm,td];exact hm
def l0:List E:=[⟨⟨#[97]⟩,⟨#[120]⟩,-1⟩,⟨⟨#[99]⟩,⟨#[]⟩,7⟩]
end Go.Proofs.YtmonobkginiajaaGreat.Nd
