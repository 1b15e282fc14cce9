/- packed. -/
import Derived.Test.YtmonobkginiajaaGreatN14
set_option linter.all false
set_option maxRecDepth 100000
set_option maxHeartbeats 8000000
namespace Go.Proofs.YtmonobkginiajaaGreat.Nd
open Go.RowKit Sl
attribute [local go_sem ↓] Go.wp_at_zero Go.wp_at_succ aW
def jV(rs:List (List UInt8)):Bool:=decide (rs.head?=some [1])
def iO(rs:List (List UInt8)):List E:=rs.tail.map λr=>eZ ⟨r.toArray⟩
def fD(rs:List (List UInt8)):Prop:=(rs.head?=some [1]\/rs.head?=some [2])/\(∀r∈rs.tail,fj ⟨r.toArray⟩)/\cu (iO rs) (jV rs)
def jW(rs:List (List UInt8))(w:World)(e:Ending)(w':World):Prop:=
 ((¬fD rs/\e=.returned (.tuple #[aV false none 0 0,.int .i64 14]))\/
  (fD rs/\∃A n c,e=.returned (.tuple #[aV (jV rs) A n c,.int .i64 0])/\aQ w' 111 3 (.slice A n c) n (ax (iO rs))/\Hid (∀g∈ah (.slice A n c),w.heap.size<=g)))/\Below w.heap.size w w'
theorem got_nil(s:ByteArray)(w:World)(hs:s.size<=1000000)(hq:bo s.data.toList=0)(kY:bQ s.data.toList=[]):
  Calls Tryz.prog 122 #[.string s] w (jW ([]) w):=by
 have B0:=az.new w 118 #[.bool false,.slice none 0 0];have O0:=ae (Below.refl w.heap.size w) (.cells #[.bool false,.slice none 0 0] 118);have KA:=xh (jU s (w.alloc (.cells #[.bool false,.slice none 0 0] 118)) hs);unfold jW aV;have O0:=xh O0;have B0:=xh B0;have hS:=(cU _).1 hq;have hm:=jr hS;have ES:=xh (iq hS);have hN:=bJ s.data.toList;obtain⟨N,sZ⟩:∃N,bl s.data.toList 0=N:=⟨_,rfl⟩;unfold je at KA
 rw[hq,kY,sZ]at KA;rw[kY,sZ]at hN;rw[kY]at hm ES;clear hS hq kY sZ;go_enter Tryz.func122,Tryz.ntmps122;go_wp2_with fail;refine KA.o.mono ?_;rintro e w1 ⟨v,rfl,aI,fr,hv⟩;have S1:aQ w1 9 1 v N (strs []):=hv.elim (λh=>h.2) (λh=>absurd rfl h.1);have vd:∀x∈ah v,w.heap.size+1<=x:=λx hx=>by have:=fr x hx;rw[pQ]at this;exact this
 obtain⟨V1,nC,rfl⟩:=aq S1;have O1:=xh (ao O0.o aI);have B1:=xh (B0.o.below aI B0.o.lt);have f0:w1.frozen? ⟨w.heap.size,0,none⟩=false:=B1.o.frozen 0 (by simp);have f1:w1.frozen? ⟨w.heap.size,1,none⟩=false:=B1.o.frozen 1 (by simp);have z0:w1.cell? ⟨w.heap.size,0,none⟩=some (.bool false):=B1.o.ab (i:=0) rfl;have z1:w1.cell? ⟨w.heap.size,1,none⟩=some (.slice none 0 0):=B1.o.ab (i:=1) rfl
 have BZ:=xh ((B1.o.bt 0 (.bool false)).bt 1 (.slice none 0 0));have OZ:=xh (((((ag.aj (S:=[]) O1.o).setCell (p:=⟨w.heap.size,0,none⟩) (λh=>absurd h (by simp)) (.bool false)).setCell (p:=⟨w.heap.size,1,none⟩) (λh=>absurd h (by simp)) (.slice none 0 0))).cK);clear fr aI hv;obtain rfl:N=0:=by simpa using hN.symm
 go_wp2_with fail;exact bodyPost_ret (dS rfl rfl BZ.o) rfl ⟨.inl ⟨by simp[fD],rfl⟩,OZ.o⟩
theorem got_odd(s:ByteArray)(w:World)(hs:s.size<=1000000)(hq:bo s.data.toList=0)(r0:List UInt8)(rest:List (List UInt8))(h1:¬r0=[1])(h2:¬r0=[2])(kY:bQ s.data.toList=r0::rest):
  Calls Tryz.prog 122 #[.string s] w (jW (r0::rest) w):=by
 have B0:=az.new w 118 #[.bool false,.slice none 0 0];have O0:=ae (Below.refl w.heap.size w) (.cells #[.bool false,.slice none 0 0] 118);have KA:=xh (jU s (w.alloc (.cells #[.bool false,.slice none 0 0] 118)) hs);unfold jW aV;have O0:=xh O0;have B0:=xh B0;have hS:=(cU _).1 hq;have hm:=jr hS;have ES:=xh (iq hS);have hN:=bJ s.data.toList;obtain⟨N,sZ⟩:∃N,bl s.data.toList 0=N:=⟨_,rfl⟩;unfold je at KA
 rw[hq,kY,sZ]at KA;rw[kY,sZ]at hN;rw[kY]at hm ES;clear hS hq kY sZ;go_enter Tryz.func122,Tryz.ntmps122;go_wp2_with fail;refine KA.o.mono ?_;rintro e w1 ⟨v,rfl,aI,fr,hv⟩;have S1:aQ w1 9 1 v N (strs (r0::rest)):=hv.elim (λh=>h.2) (λh=>absurd rfl h.1);have vd:∀x∈ah v,w.heap.size+1<=x:=λx hx=>by have:=fr x hx;rw[pQ]at this;exact this
 obtain⟨V1,nC,rfl⟩:=aq S1;have O1:=xh (ao O0.o aI);have B1:=xh (B0.o.below aI B0.o.lt);have f0:w1.frozen? ⟨w.heap.size,0,none⟩=false:=B1.o.frozen 0 (by simp);have f1:w1.frozen? ⟨w.heap.size,1,none⟩=false:=B1.o.frozen 1 (by simp);have z0:w1.cell? ⟨w.heap.size,0,none⟩=some (.bool false):=B1.o.ab (i:=0) rfl;have z1:w1.cell? ⟨w.heap.size,1,none⟩=some (.slice none 0 0):=B1.o.ab (i:=1) rfl
 have BZ:=xh ((B1.o.bt 0 (.bool false)).bt 1 (.slice none 0 0));have OZ:=xh (((((ag.aj (S:=[]) O1.o).setCell (p:=⟨w.heap.size,0,none⟩) (λh=>absurd h (by simp)) (.bool false)).setCell (p:=⟨w.heap.size,1,none⟩) (λh=>absurd h (by simp)) (.slice none 0 0))).cK);clear fr aI hv;obtain rfl:N=rest.length+1:=by simpa using hN.symm
 obtain⟨g,rfl,ck⟩:=iM S1 0 (by simp);have hgw:w.heap.size<g:=vd g (by simp[ah]);have hgl:g<w1.heap.size:=S1.lt g (by simp[ah]);have hwl1:=B1.o.lt;have ET:w1.cell? ⟨g,0,none⟩=some (.string ⟨r0.toArray⟩):=ck;have S1:=xh S1;have EP:rest.length<=56:=nL hm;have pJ:rest.length+1<=nC/\nC<=maxLen:=by
  obtain⟨r,_,h1,_,h2⟩:=S1.o.oR;simp at h1;exact⟨by first|omega|(simp;omega),h2⟩
 clear ck vd KA hN hm;obtain⟨K0,xi⟩:∃K0:ByteArray,(⟨r0.toArray⟩:ByteArray)=K0:=⟨_,rfl⟩;rw[xi]at ET;have Cc:K0.toList=r0:=by rw[dk,<-xi]
 clear xi;have n1:¬(rest.length:Int)+1=0:=by omega
 have n2:((rest.length:Int)+1==0)=false:=by simpa using n1
 rw[<-Cc]at h1 h2;have k1:(K0.toList==[1])=false:=by simpa using h1
 have k2:(K0.toList==[2])=false:=by simpa using h2
 have HNO:=xh (show ¬fD (r0::rest)from λhx=>by
  have:=hx.1;simp only[List.head?_cons,Option.some.injEq]at this;rw[<-Cc]at this;exact this.elim h1 h2)
 clear Cc;go_wp2_with fail;exact bodyPost_ret (dS rfl rfl BZ.o) rfl ⟨.inl ⟨HNO.o,rfl⟩,OZ.o⟩
theorem xj(s:ByteArray)(w:World)(hs:s.size<=1000000)(hq:bo s.data.toList=0)(r0:List UInt8)(ug:r0=[1])(kY:bQ s.data.toList=[r0]):
  Calls Tryz.prog 122 #[.string s] w (jW ([r0]) w):=by
 have B0:=az.new w 118 #[.bool false,.slice none 0 0];have O0:=ae (Below.refl w.heap.size w) (.cells #[.bool false,.slice none 0 0] 118);have KA:=xh (jU s (w.alloc (.cells #[.bool false,.slice none 0 0] 118)) hs);unfold jW aV;have O0:=xh O0;have B0:=xh B0;have hS:=(cU _).1 hq;have hm:=jr hS;have ES:=xh (iq hS);have hN:=bJ s.data.toList;obtain⟨N,sZ⟩:∃N,bl s.data.toList 0=N:=⟨_,rfl⟩;unfold je at KA
 rw[hq,kY,sZ]at KA;rw[kY,sZ]at hN;rw[kY]at hm ES;clear hS hq kY sZ;go_enter Tryz.func122,Tryz.ntmps122;go_wp2_with fail;refine KA.o.mono ?_;rintro e w1 ⟨v,rfl,aI,fr,hv⟩;have S1:aQ w1 9 1 v N (strs [r0]):=hv.elim (λh=>h.2) (λh=>absurd rfl h.1);have vd:∀x∈ah v,w.heap.size+1<=x:=λx hx=>by have:=fr x hx;rw[pQ]at this;exact this
 obtain⟨V1,nC,rfl⟩:=aq S1;have O1:=xh (ao O0.o aI);have B1:=xh (B0.o.below aI B0.o.lt);have f0:w1.frozen? ⟨w.heap.size,0,none⟩=false:=B1.o.frozen 0 (by simp);have f1:w1.frozen? ⟨w.heap.size,1,none⟩=false:=B1.o.frozen 1 (by simp);have z0:w1.cell? ⟨w.heap.size,0,none⟩=some (.bool false):=B1.o.ab (i:=0) rfl;have z1:w1.cell? ⟨w.heap.size,1,none⟩=some (.slice none 0 0):=B1.o.ab (i:=1) rfl
 have BZ:=xh ((B1.o.bt 0 (.bool false)).bt 1 (.slice none 0 0));have OZ:=xh (((((ag.aj (S:=[]) O1.o).setCell (p:=⟨w.heap.size,0,none⟩) (λh=>absurd h (by simp)) (.bool false)).setCell (p:=⟨w.heap.size,1,none⟩) (λh=>absurd h (by simp)) (.slice none 0 0))).cK);clear fr aI hv;obtain rfl:N=([]:List (List UInt8)).length+1:=by simpa using hN.symm
 obtain⟨g,rfl,ck⟩:=iM S1 0 (by simp);have hgw:w.heap.size<g:=vd g (by simp[ah]);have hgl:g<w1.heap.size:=S1.lt g (by simp[ah]);have hwl1:=B1.o.lt;have ET:w1.cell? ⟨g,0,none⟩=some (.string ⟨r0.toArray⟩):=ck;have S1:=xh S1;have EP:([]:List (List UInt8)).length<=56:=nL hm;have pJ:([]:List (List UInt8)).length+1<=nC/\nC<=maxLen:=by
  obtain⟨r,_,h1,_,h2⟩:=S1.o.oR;simp at h1;exact⟨by first|omega|(simp;omega),h2⟩
 clear ck vd KA hN hm;obtain⟨K0,xi⟩:∃K0:ByteArray,(⟨r0.toArray⟩:ByteArray)=K0:=⟨_,rfl⟩;rw[xi]at ET;have Cc:K0.toList=r0:=by rw[dk,<-xi]
 clear xi;have hk:K0.toList=[1]:=by rw[Cc];exact ug
 have I0:=xh ug;have k1:(K0.toList==[1])=true:=by rw[hk];decide
 have k2:(K0.toList==[2])=false:=by rw[hk];decide
 have k3:K0.toList=[1]:=by rw[hk]
 clear Cc hk;have R0:=xh (show az (w1.alloc (.cells #[.bool true,.slice none 0 0] 118)) w1.heap.size 118 #[.bool true,.slice none 0 0]from az.new w1 _ _);have R2:=xh (B1.o.alloc (.cells #[.bool true,.slice none 0 0] 118));have RO:=xh (ao O1.o (ae (Below.refl _ _) (.cells #[.bool true,.slice none 0 0] 118)));have Cd:=xh (show jV [r0]=true from by simp[jV,I0.o])
 have HM:=xh (show cu ([]:List E) true from λi hi=>absurd hi (jO _));have Ce:=xh (show fD [r0]from⟨by rw[I0.o];simp,by simp,by rw[Cd.o];exact HM.o⟩)
 by_cases l8:nC=1
 all_goals
  go_wp2_with fail;generalize hW6:(w1.alloc (.cells #[.bool true,.slice none 0 0] 118))=W6 at *;clear hW6 f0 f1 z0 z1 ET;have KM:=xh (mq (w:=W6) true none 0 0 [] (show kX W6 none 0 []from⟨rfl,λk e h=>by simp at h⟩) (by omega));unfold aV at KM
  go_loopw [46] (λiv wr=>iv=.int .i64 0/\wr=W6) (λ_ _=>0)
  case atStart=>exact⟨rfl,rfl⟩
  case round=>
   obtain⟨rfl,rfl⟩:=hrel;have d0:wr.cell? ⟨w1.heap.size,0,none⟩=some (.bool true):=R0.o.ab (i:=0) rfl;have d1:wr.cell? ⟨w1.heap.size,1,none⟩=some (.slice none 0 0):=R0.o.ab (i:=1) rfl;go_wp2_with fail;refine KM.o.mono ?_;rintro e' w2 ⟨⟨b,rfl,hb⟩,bA⟩;obtain rfl:=hb.2 HM.o;have CW:=R2.o.below bA R2.o.lt;have CN:=R0.o.below bA R0.o.lt;have f0:w2.frozen? ⟨w.heap.size,0,none⟩=false:=CW.frozen 0 (by simp)
   have f1:w2.frozen? ⟨w.heap.size,1,none⟩=false:=CW.frozen 1 (by simp);have z0:w2.cell? ⟨w.heap.size,0,none⟩=some (.bool false):=CW.ab (i:=0) rfl;have z1:w2.cell? ⟨w.heap.size,1,none⟩=some (.slice none 0 0):=CW.ab (i:=1) rfl;have y0:w2.cell? ⟨w1.heap.size,0,none⟩=some (.bool true):=CN.ab (i:=0) rfl;have y1:w2.cell? ⟨w1.heap.size,1,none⟩=some (.slice none 0 0):=CN.ab (i:=1) rfl;have I1:=R2.o.lt;have CX:=xh ((CW.bt 0 (.bool true)).bt 1 (.slice none 0 0))
   have OX:=xh ((((ag.aj (S:=[]) (ao RO.o bA)).setCell (p:=⟨w.heap.size,0,none⟩) (λh=>absurd h (by simp)) (.bool true)).setCell (p:=⟨w.heap.size,1,none⟩) (λh=>absurd h (by simp)) (.slice none 0 0)).cK);clear CW CN bA hb d0 d1;go_wp2_with fail;exact bodyPost_ret (dS rfl rfl CX.o) rfl ⟨.inr ⟨Ce.o,none,0,0,by rw[Cd.o];rfl,aQ.nil _ _ _,xh (λx hx=>by simp[ah]at hx)⟩,OX.o⟩
theorem ui(s:ByteArray)(w:World)(hs:s.size<=1000000)(hq:bo s.data.toList=0)(r0:List UInt8)(rest:List (List UInt8))(ug:r0=[1])(eG:rest≠[])(kY:bQ s.data.toList=r0::rest):
  Calls Tryz.prog 122 #[.string s] w (jW (r0::rest) w):=by
 have B0:=az.new w 118 #[.bool false,.slice none 0 0];have O0:=ae (Below.refl w.heap.size w) (.cells #[.bool false,.slice none 0 0] 118);have KA:=xh (jU s (w.alloc (.cells #[.bool false,.slice none 0 0] 118)) hs);unfold jW aV;have O0:=xh O0;have B0:=xh B0;have hS:=(cU _).1 hq;have hm:=jr hS;have ES:=xh (iq hS);have hN:=bJ s.data.toList;obtain⟨N,sZ⟩:∃N,bl s.data.toList 0=N:=⟨_,rfl⟩;unfold je at KA
 rw[hq,kY,sZ]at KA;rw[kY,sZ]at hN;rw[kY]at hm ES;clear hS hq kY sZ;go_enter Tryz.func122,Tryz.ntmps122;go_wp2_with fail;refine KA.o.mono ?_;rintro e w1 ⟨v,rfl,aI,fr,hv⟩;have S1:aQ w1 9 1 v N (strs (r0::rest)):=hv.elim (λh=>h.2) (λh=>absurd rfl h.1);have vd:∀x∈ah v,w.heap.size+1<=x:=λx hx=>by have:=fr x hx;rw[pQ]at this;exact this
 obtain⟨V1,nC,rfl⟩:=aq S1;have O1:=xh (ao O0.o aI);have B1:=xh (B0.o.below aI B0.o.lt);have f0:w1.frozen? ⟨w.heap.size,0,none⟩=false:=B1.o.frozen 0 (by simp);have f1:w1.frozen? ⟨w.heap.size,1,none⟩=false:=B1.o.frozen 1 (by simp);have z0:w1.cell? ⟨w.heap.size,0,none⟩=some (.bool false):=B1.o.ab (i:=0) rfl;have z1:w1.cell? ⟨w.heap.size,1,none⟩=some (.slice none 0 0):=B1.o.ab (i:=1) rfl
 have BZ:=xh ((B1.o.bt 0 (.bool false)).bt 1 (.slice none 0 0));have OZ:=xh (((((ag.aj (S:=[]) O1.o).setCell (p:=⟨w.heap.size,0,none⟩) (λh=>absurd h (by simp)) (.bool false)).setCell (p:=⟨w.heap.size,1,none⟩) (λh=>absurd h (by simp)) (.slice none 0 0))).cK);clear fr aI hv;obtain rfl:N=rest.length+1:=by simpa using hN.symm
 obtain⟨g,rfl,ck⟩:=iM S1 0 (by simp);have hgw:w.heap.size<g:=vd g (by simp[ah]);have hgl:g<w1.heap.size:=S1.lt g (by simp[ah]);have hwl1:=B1.o.lt;have ET:w1.cell? ⟨g,0,none⟩=some (.string ⟨r0.toArray⟩):=ck;have S1:=xh S1;have EP:rest.length<=56:=nL hm;have pJ:rest.length+1<=nC/\nC<=maxLen:=by
  obtain⟨r,_,h1,_,h2⟩:=S1.o.oR;simp at h1;exact⟨by first|omega|(simp;omega),h2⟩
 clear ck vd KA hN hm;obtain⟨K0,xi⟩:∃K0:ByteArray,(⟨r0.toArray⟩:ByteArray)=K0:=⟨_,rfl⟩;rw[xi]at ET;have Cc:K0.toList=r0:=by rw[dk,<-xi]
 clear xi;have hk:K0.toList=[1]:=by rw[Cc];exact ug
 have I0:=xh ug;have k1:(K0.toList==[1])=true:=by rw[hk];decide
 have k2:(K0.toList==[2])=false:=by rw[hk];decide
 have k3:K0.toList=[1]:=by rw[hk]
 clear Cc hk;have n1:¬(rest.length:Int)+1=0:=by omega
 have n2:((rest.length:Int)+1==0)=false:=by simpa using n1
 have l8:¬nC=1:=λh=>by
  have:0<rest.length:=rE.2 eG;omega
 have R0:=xh (show az (w1.alloc (.cells #[.bool true,.slice none 0 0] 118)) w1.heap.size 118 #[.bool true,.slice none 0 0]from az.new w1 _ _);have R2:=xh (B1.o.alloc (.cells #[.bool true,.slice none 0 0] 118));have RS:=xh (S1.o.alloc (.cells #[.bool true,.slice none 0 0] 118));have RO:=xh (ao O1.o (ae (Below.refl _ _) (.cells #[.bool true,.slice none 0 0] 118)));go_wp2_with fail;generalize hW6:(w1.alloc (.cells #[.bool true,.slice none 0 0] 118))=W6 at *
 clear hW6 f0 f1 z0 z1 ET
 go_loopw [46] (λiv wr=> ∃(i:Nat) (v':Value),i<=rest.length/\iv=.int .i64 i/\az wr w1.heap.size 118 #[.bool true,v']/\az wr w.heap.size 118 #[.bool false,.slice none 0 0]/\aQ wr 111 3 v' i (ax ((rest.take i).map λr=>eZ ⟨r.toArray⟩))/\aQ wr 9 1 (.slice (some ⟨g,0,none⟩) (rest.length+1) nC) (rest.length+1) (strs (r0::rest))/\Hid (∀r∈rest.take i,fj ⟨r.toArray⟩)/\Below w.heap.size w wr/\Hid (∀x∈ah v',w1.heap.size+1<=x)) (λiv _=>rest.length-(intOf iv).toNat)
 case atStart=>exact⟨0,_,bq _,rfl,R0.o,R2.o,aQ.nil _ _ _,RS.o,xh (by simp),RO.o,xh (λx hx=>by simp[ah]at hx)⟩
 case round=>
  obtain⟨i,v',hi,rfl,C6,C2,S,RS,EO,O,F⟩:=hrel;obtain⟨VA,vc,rfl⟩:=aq S;have hltr:=C6.lt;have hg6:w1.heap.size∉ah (.slice VA i vc):=λhx=>by have:=F.o _ hx;omega
  have hg2:w.heap.size∉ah (.slice VA i vc):=λhx=>by have:=F.o _ hx;omega
  have EK:g∉ah (.slice VA i vc):=λhx=>by have:=F.o _ hx;omega
  by_cases h:i<rest.length
  .obtain⟨g',hgx,ck⟩:=iM RS (i+1) (by simp;omega);simp only[Option.some.injEq,Addr.mk.injEq,and_true]at hgx;subst hgx;have hri:(r0::rest)[i+1]'(by simp;omega)=rest[i]:=Ah ..;rw[hri]at ck;have mL:rest[i].length<=232:=ES.o _ (bY _ (ij h));have HT:=xh (iC h);obtain⟨T,hT⟩:∃T:ByteArray,(⟨rest[i].toArray⟩:ByteArray)=T:=⟨_,rfl⟩;have hTs:T.size<=232:=by rw[<-hT,Sl.size_of_list];exact mL
   rw[hT]at ck;have HTT:=xh hT;have ck2:wr.cell? ((⟨g,1,none⟩:Addr).add i)=some (.string T):=by rw[gU,qV];exact ck
   have hiI:(i:Int)<(rest.length:Int):=by omega
   have ck3:wr.cell? ⟨g,1+i,none⟩=some (.string T):=by rw[qV];exact ck
   clear hT hri mL
   by_cases ef:fj T
   .have KE:=xh (λw=>vg w T ef (by omega));have zQ:=xh ef;obtain⟨e,he⟩:∃e,eZ T=e:=⟨_,rfl⟩;rw[he]at KE;have HE:=xh he;have SL:=xh S;have CL:=xh C6;have xk:=xh C2;have RL:=xh RS;have OL:=xh O;unfold E.agg at KE;clear ef he S C6 C2 RS O;go_wp2_with fail;refine(KE.o _).mono ?_;rintro e' w2 ⟨rfl,bA⟩
    obtain⟨v2,w3,ea,S3,ow,f3⟩:=sX (P:=Tryz.prog) ((SL.o.below bA).alloc (.cells #[.string e.key,.string e.val,.int .i64 e.aY] 111)) 108 108 (.agg #[.string .empty,.string .empty,.int .i64 0]) 40 Tryz.underlying108 (by kernel_rfl) rfl e (by unfold maxLen;omega) (by omega);rw[pQ]at ea;obtain⟨V2,fs,rfl⟩:=aq S3;have EA:=xh ea;have O2:=xh ((ag.aj (S:=ah (.slice VA i vc)) bA).alloc (.cells #[.string e.key,.string e.val,.int .i64 e.aY] 111))
    have OW:=O2.o.trans ow;have CW:=((CL.o.below bA CL.o.lt).alloc (.cells #[.string e.key,.string e.val,.int .i64 e.aY] 111)).only ow hg6;have c61:((w2.alloc (.cells #[.string e.key,.string e.val,.int .i64 e.aY] 111))).cell? ⟨w1.heap.size,1,none⟩=some (.slice VA i vc):=((CL.o.below bA CL.o.lt).alloc (.cells #[.string e.key,.string e.val,.int .i64 e.aY] 111)).ab (i:=1) rfl;have fz:w3.frozen? ⟨w1.heap.size,1,none⟩=false:=CW.frozen 1 (by simp)
    have cz:w3.cell? ⟨w1.heap.size,1,none⟩=some (.slice VA i vc):=CW.ab (i:=1) rfl;have hsz2:wr.heap.size<=w2.heap.size:=bA.size;have OX:=OW.mono (S':=w1.heap.size::ah (.slice VA i vc)) (λx hx _=>bY _ hx)|>.setCell (p:=⟨w1.heap.size,1,none⟩) (λ_=>by simp) (.slice V2 (i+1) fs);have CX:=xh (CW.bt 1 (.slice V2 (i+1) fs));have C2X:=xh (xk.o.only OX (by simp;exact⟨by omega,hg2⟩))
    have RX:=xh (RL.o.only OX (λx hx=>by simp[ah]at hx;subst hx;simp;exact⟨by omega,EK⟩));have nU:∀x∈ah (.slice V2 (i+1) fs),w1.heap.size+1<=x:=λx hx=>(f3 x hx).elim (F.o x) (λh=>by rw[pQ]at h;omega);have FX:=xh nU;have SX:=xh (S3.only ((ag.refl [w1.heap.size] w3).setCell (p:=⟨w1.heap.size,1,none⟩) (λ_=>by simp) (.slice V2 (i+1) fs)) (λx hx=>by have:=nU x hx;simp;omega))
    have OB:=xh (OL.o.trans (OX.aE OL.o.size (λx hx=>by
     rcases aD.1 hx with rfl|hx
     .omega
     .have:=F.o x hx;omega)))
    have HSX:=xh (show ax ((rest.take (i+1)).map λr=>eZ ⟨r.toArray⟩)=ax ((rest.take i).map λr=>eZ ⟨r.toArray⟩)++e.cells from by
     rw[HT.o,eh,eH,eX,HTT.o,HE.o];simp[ax])
    have EX:=xh (show ∀r∈rest.take (i+1),fj ⟨r.toArray⟩from λr hr=>by
     rw[HT.o]at hr
     rcases aS.1 hr with hr|hr
     .exact EO.o r hr
     .simp only[cg]at hr;rw[hr,HTT.o];exact zQ.o)
    clear ea S3 ow f3 OW CW OX nU bA;go_wp2_with fail;rw[EA.o];go_wp2_with fail;go_roundw
    case rel=>exact⟨i+1,_,by omega,by go_num,CX.o,C2X.o,by rw[HSX.o];exact SX.o,RX.o,EX,OB.o,FX⟩
    case measure=>simp[intOf];omega
   .have KE:=xh (λw=>yG w T ef);have zQ:=xh ef;have HNO:=xh (show ¬fD (r0::rest)from λhx=>ef (by rw[<-HTT.o];exact hx.2.1 _ (by rw[iB];exact ij h)));have xk:=xh C2;have OL:=xh O;unfold E.agg E.zero at KE;clear ef S C6 C2 RS O;go_wp2_with fail;refine(KE.o _).mono ?_;rintro e' w2 ⟨rfl,bA⟩;have CW:=(xk.o.below bA xk.o.lt).alloc (.cells #[.string .empty,.string .empty,.int .i64 0] 111)
    have f0:(w2.alloc (.cells #[.string .empty,.string .empty,.int .i64 0] 111)).frozen? ⟨w.heap.size,0,none⟩=false:=CW.frozen 0 (by simp);have f1:(w2.alloc (.cells #[.string .empty,.string .empty,.int .i64 0] 111)).frozen? ⟨w.heap.size,1,none⟩=false:=CW.frozen 1 (by simp);have z0:(w2.alloc (.cells #[.string .empty,.string .empty,.int .i64 0] 111)).cell? ⟨w.heap.size,0,none⟩=some (.bool false):=CW.ab (i:=0) rfl
    have z1:(w2.alloc (.cells #[.string .empty,.string .empty,.int .i64 0] 111)).cell? ⟨w.heap.size,1,none⟩=some (.slice none 0 0):=CW.ab (i:=1) rfl;have CX:=xh ((CW.bt 0 (.bool false)).bt 1 (.slice none 0 0))
    have OX:=xh ((((ag.aj (S:=[]) (ao OL.o (ae bA (.cells #[.string .empty,.string .empty,.int .i64 0] 111)))).setCell (p:=⟨w.heap.size,0,none⟩) (λh=>absurd h (by simp)) (.bool false)).setCell (p:=⟨w.heap.size,1,none⟩) (λh=>absurd h (by simp)) (.slice none 0 0)).cK);have I1:=xk.o.lt;clear CW bA;go_wp2_with fail;exact bodyPost_ret (dS rfl rfl CX.o) rfl ⟨.inl ⟨HNO.o,rfl⟩,OX.o⟩
  .obtain rfl:i=rest.length:=by omega
   rw[jN]at S EO;have HE:=xh (show iO (r0::rest)=rest.map λr=>eZ ⟨r.toArray⟩from rfl);have Cd:=xh (show jV (r0::rest)=true from by simp[jV,I0.o]);rw[<-HE.o]at S;obtain⟨-,EN⟩:=aQ.ax S;have KM:=xh (mq (w:=wr) true VA rest.length vc (iO (r0::rest)) EN (by omega))
   have HF:=xh (show(cu (iO (r0::rest)) true->fD (r0::rest))/\(fD (r0::rest)->cu (iO (r0::rest)) true)from⟨λhm=>⟨by rw[I0.o];simp,EO.o,by rw[Cd.o];exact hm⟩,λhx=>by have:=hx.2.2;rw[Cd.o]at this;exact this⟩);have d0:wr.cell? ⟨w1.heap.size,0,none⟩=some (.bool true):=C6.ab (i:=0) rfl;have d1:wr.cell? ⟨w1.heap.size,1,none⟩=some (.slice VA rest.length vc):=C6.ab (i:=1) rfl;have SL:=xh S;have CL:=xh C6;have xk:=xh C2
   have OL:=xh O;unfold aV at KM;clear S C6 C2 RS O EN;go_wp2_with fail;refine KM.o.mono ?_;rintro e' w2 ⟨⟨b,rfl,hb⟩,bA⟩;have CW:=xk.o.below bA xk.o.lt;have CN:=CL.o.below bA CL.o.lt;have f0:w2.frozen? ⟨w.heap.size,0,none⟩=false:=CW.frozen 0 (by simp);have f1:w2.frozen? ⟨w.heap.size,1,none⟩=false:=CW.frozen 1 (by simp);have z0:w2.cell? ⟨w.heap.size,0,none⟩=some (.bool false):=CW.ab (i:=0) rfl
   have z1:w2.cell? ⟨w.heap.size,1,none⟩=some (.slice none 0 0):=CW.ab (i:=1) rfl;have y0:w2.cell? ⟨w1.heap.size,0,none⟩=some (.bool true):=CN.ab (i:=0) rfl;have y1:w2.cell? ⟨w1.heap.size,1,none⟩=some (.slice VA rest.length vc):=CN.ab (i:=1) rfl;have I1:=xk.o.lt
   cases b
   .have HNO:=xh (show ¬fD (r0::rest)from λhx=>by have:=hb.2 (HF.o.2 hx);cases this);have CX:=xh ((CW.bt 0 (.bool false)).bt 1 (.slice none 0 0));have OX:=xh ((((ag.aj (S:=[]) (ao OL.o bA)).setCell (p:=⟨w.heap.size,0,none⟩) (λh=>absurd h (by simp)) (.bool false)).setCell (p:=⟨w.heap.size,1,none⟩) (λh=>absurd h (by simp)) (.slice none 0 0)).cK);clear CW CN bA hb d0 d1;go_wp2_with fail
    exact bodyPost_ret (dS rfl rfl CX.o) rfl ⟨.inl ⟨HNO.o,rfl⟩,OX.o⟩
   .have Ce:=xh (HF.o.1 (hb.1 rfl));have CX:=xh ((CW.bt 0 (.bool true)).bt 1 (.slice VA rest.length vc));have OX:=xh ((((ag.aj (S:=[]) (ao OL.o bA)).setCell (p:=⟨w.heap.size,0,none⟩) (λh=>absurd h (by simp)) (.bool true)).setCell (p:=⟨w.heap.size,1,none⟩) (λh=>absurd h (by simp)) (.slice VA rest.length vc)).cK)
    have SX:=xh ((SL.o.below bA).only (((ag.refl [w.heap.size] w2).setCell (p:=⟨w.heap.size,0,none⟩) (λ_=>by simp) (.bool true)).setCell (p:=⟨w.heap.size,1,none⟩) (λ_=>by simp) (.slice VA rest.length vc)) (λx hx=>by simp;exact λhxx=>hg2 (hxx▸hx)));clear CW CN bA hb d0 d1;go_wp2_with fail;exact bodyPost_ret (dS rfl rfl CX.o) rfl ⟨.inr (⟨Ce.o,VA,rest.length,vc,by rw[Cd.o];rfl,SX.o,xh (λx hx=>by have:=F.o x hx;omega)⟩),OX.o⟩
theorem uj(s:ByteArray)(w:World)(hs:s.size<=1000000)(hq:bo s.data.toList=0)(r0:List UInt8)(ug:r0=[2])(kY:bQ s.data.toList=[r0]):
  Calls Tryz.prog 122 #[.string s] w (jW ([r0]) w):=by
 have B0:=az.new w 118 #[.bool false,.slice none 0 0];have O0:=ae (Below.refl w.heap.size w) (.cells #[.bool false,.slice none 0 0] 118);have KA:=xh (jU s (w.alloc (.cells #[.bool false,.slice none 0 0] 118)) hs);unfold jW aV;have O0:=xh O0;have B0:=xh B0;have hS:=(cU _).1 hq;have hm:=jr hS;have ES:=xh (iq hS);have hN:=bJ s.data.toList;obtain⟨N,sZ⟩:∃N,bl s.data.toList 0=N:=⟨_,rfl⟩;unfold je at KA
 rw[hq,kY,sZ]at KA;rw[kY,sZ]at hN;rw[kY]at hm ES;clear hS hq kY sZ;go_enter Tryz.func122,Tryz.ntmps122;go_wp2_with fail;refine KA.o.mono ?_;rintro e w1 ⟨v,rfl,aI,fr,hv⟩;have S1:aQ w1 9 1 v N (strs [r0]):=hv.elim (λh=>h.2) (λh=>absurd rfl h.1);have vd:∀x∈ah v,w.heap.size+1<=x:=λx hx=>by have:=fr x hx;rw[pQ]at this;exact this
 obtain⟨V1,nC,rfl⟩:=aq S1;have O1:=xh (ao O0.o aI);have B1:=xh (B0.o.below aI B0.o.lt);have f0:w1.frozen? ⟨w.heap.size,0,none⟩=false:=B1.o.frozen 0 (by simp);have f1:w1.frozen? ⟨w.heap.size,1,none⟩=false:=B1.o.frozen 1 (by simp);have z0:w1.cell? ⟨w.heap.size,0,none⟩=some (.bool false):=B1.o.ab (i:=0) rfl;have z1:w1.cell? ⟨w.heap.size,1,none⟩=some (.slice none 0 0):=B1.o.ab (i:=1) rfl
 have BZ:=xh ((B1.o.bt 0 (.bool false)).bt 1 (.slice none 0 0));have OZ:=xh (((((ag.aj (S:=[]) O1.o).setCell (p:=⟨w.heap.size,0,none⟩) (λh=>absurd h (by simp)) (.bool false)).setCell (p:=⟨w.heap.size,1,none⟩) (λh=>absurd h (by simp)) (.slice none 0 0))).cK);clear fr aI hv;obtain rfl:N=([]:List (List UInt8)).length+1:=by simpa using hN.symm
 obtain⟨g,rfl,ck⟩:=iM S1 0 (by simp);have hgw:w.heap.size<g:=vd g (by simp[ah]);have hgl:g<w1.heap.size:=S1.lt g (by simp[ah]);have hwl1:=B1.o.lt;have ET:w1.cell? ⟨g,0,none⟩=some (.string ⟨r0.toArray⟩):=ck;have S1:=xh S1;have EP:([]:List (List UInt8)).length<=56:=nL hm;have pJ:([]:List (List UInt8)).length+1<=nC/\nC<=maxLen:=by
  obtain⟨r,_,h1,_,h2⟩:=S1.o.oR;simp at h1;exact⟨by first|omega|(simp;omega),h2⟩
 clear ck vd KA hN hm;obtain⟨K0,xi⟩:∃K0:ByteArray,(⟨r0.toArray⟩:ByteArray)=K0:=⟨_,rfl⟩;rw[xi]at ET;have Cc:K0.toList=r0:=by rw[dk,<-xi]
 clear xi;have hk:K0.toList=[2]:=by rw[Cc];exact ug
 have I0:=xh ug;have k1:(K0.toList==[1])=false:=by rw[hk];decide
 have k2:(K0.toList==[2])=true:=by rw[hk];decide
 have k3:¬K0.toList=[1]:=by rw[hk];decide
 clear Cc hk;have R0:=xh (show az (w1.alloc (.cells #[.bool false,.slice none 0 0] 118)) w1.heap.size 118 #[.bool false,.slice none 0 0]from az.new w1 _ _);have R2:=xh (B1.o.alloc (.cells #[.bool false,.slice none 0 0] 118));have RO:=xh (ao O1.o (ae (Below.refl _ _) (.cells #[.bool false,.slice none 0 0] 118)));have Cd:=xh (show jV [r0]=false from by simp[jV,I0.o])
 have HM:=xh (show cu ([]:List E) false from λi hi=>absurd hi (jO _));have Ce:=xh (show fD [r0]from⟨by rw[I0.o];simp,by simp,by rw[Cd.o];exact HM.o⟩)
 by_cases l8:nC=1
 all_goals
  go_wp2_with fail;generalize hW6:(w1.alloc (.cells #[.bool false,.slice none 0 0] 118))=W6 at *;clear hW6 f0 f1 z0 z1 ET;have KM:=xh (mq (w:=W6) false none 0 0 [] (show kX W6 none 0 []from⟨rfl,λk e h=>by simp at h⟩) (by omega));unfold aV at KM
  go_loopw [46] (λiv wr=>iv=.int .i64 0/\wr=W6) (λ_ _=>0)
  case atStart=>exact⟨rfl,rfl⟩
  case round=>
   obtain⟨rfl,rfl⟩:=hrel;have d0:wr.cell? ⟨w1.heap.size,0,none⟩=some (.bool false):=R0.o.ab (i:=0) rfl;have d1:wr.cell? ⟨w1.heap.size,1,none⟩=some (.slice none 0 0):=R0.o.ab (i:=1) rfl;go_wp2_with fail;refine KM.o.mono ?_;rintro e' w2 ⟨⟨b,rfl,hb⟩,bA⟩;obtain rfl:=hb.2 HM.o;have CW:=R2.o.below bA R2.o.lt;have CN:=R0.o.below bA R0.o.lt;have f0:w2.frozen? ⟨w.heap.size,0,none⟩=false:=CW.frozen 0 (by simp)
   have f1:w2.frozen? ⟨w.heap.size,1,none⟩=false:=CW.frozen 1 (by simp);have z0:w2.cell? ⟨w.heap.size,0,none⟩=some (.bool false):=CW.ab (i:=0) rfl;have z1:w2.cell? ⟨w.heap.size,1,none⟩=some (.slice none 0 0):=CW.ab (i:=1) rfl;have y0:w2.cell? ⟨w1.heap.size,0,none⟩=some (.bool false):=CN.ab (i:=0) rfl;have y1:w2.cell? ⟨w1.heap.size,1,none⟩=some (.slice none 0 0):=CN.ab (i:=1) rfl;have I1:=R2.o.lt;have CX:=xh ((CW.bt 0 (.bool false)).bt 1 (.slice none 0 0))
   have OX:=xh ((((ag.aj (S:=[]) (ao RO.o bA)).setCell (p:=⟨w.heap.size,0,none⟩) (λh=>absurd h (by simp)) (.bool false)).setCell (p:=⟨w.heap.size,1,none⟩) (λh=>absurd h (by simp)) (.slice none 0 0)).cK);clear CW CN bA hb d0 d1;go_wp2_with fail;exact bodyPost_ret (dS rfl rfl CX.o) rfl ⟨.inr ⟨Ce.o,none,0,0,by rw[Cd.o];rfl,aQ.nil _ _ _,xh (λx hx=>by simp[ah]at hx)⟩,OX.o⟩
theorem ta(s:ByteArray)(w:World)(hs:s.size<=1000000)(hq:bo s.data.toList=0)(r0:List UInt8)(rest:List (List UInt8))(ug:r0=[2])(eG:rest≠[])(kY:bQ s.data.toList=r0::rest):
  Calls Tryz.prog 122 #[.string s] w (jW (r0::rest) w):=by
 have B0:=az.new w 118 #[.bool false,.slice none 0 0];have O0:=ae (Below.refl w.heap.size w) (.cells #[.bool false,.slice none 0 0] 118);have KA:=xh (jU s (w.alloc (.cells #[.bool false,.slice none 0 0] 118)) hs);unfold jW aV;have O0:=xh O0;have B0:=xh B0;have hS:=(cU _).1 hq;have hm:=jr hS;have ES:=xh (iq hS);have hN:=bJ s.data.toList;obtain⟨N,sZ⟩:∃N,bl s.data.toList 0=N:=⟨_,rfl⟩;unfold je at KA
 rw[hq,kY,sZ]at KA;rw[kY,sZ]at hN;rw[kY]at hm ES;clear hS hq kY sZ;go_enter Tryz.func122,Tryz.ntmps122;go_wp2_with fail;refine KA.o.mono ?_;rintro e w1 ⟨v,rfl,aI,fr,hv⟩;have S1:aQ w1 9 1 v N (strs (r0::rest)):=hv.elim (λh=>h.2) (λh=>absurd rfl h.1);have vd:∀x∈ah v,w.heap.size+1<=x:=λx hx=>by have:=fr x hx;rw[pQ]at this;exact this
 obtain⟨V1,nC,rfl⟩:=aq S1;have O1:=xh (ao O0.o aI);have B1:=xh (B0.o.below aI B0.o.lt);have f0:w1.frozen? ⟨w.heap.size,0,none⟩=false:=B1.o.frozen 0 (by simp);have f1:w1.frozen? ⟨w.heap.size,1,none⟩=false:=B1.o.frozen 1 (by simp);have z0:w1.cell? ⟨w.heap.size,0,none⟩=some (.bool false):=B1.o.ab (i:=0) rfl;have z1:w1.cell? ⟨w.heap.size,1,none⟩=some (.slice none 0 0):=B1.o.ab (i:=1) rfl
 have BZ:=xh ((B1.o.bt 0 (.bool false)).bt 1 (.slice none 0 0));have OZ:=xh (((((ag.aj (S:=[]) O1.o).setCell (p:=⟨w.heap.size,0,none⟩) (λh=>absurd h (by simp)) (.bool false)).setCell (p:=⟨w.heap.size,1,none⟩) (λh=>absurd h (by simp)) (.slice none 0 0))).cK);clear fr aI hv;obtain rfl:N=rest.length+1:=by simpa using hN.symm
 obtain⟨g,rfl,ck⟩:=iM S1 0 (by simp);have hgw:w.heap.size<g:=vd g (by simp[ah]);have hgl:g<w1.heap.size:=S1.lt g (by simp[ah]);have hwl1:=B1.o.lt;have ET:w1.cell? ⟨g,0,none⟩=some (.string ⟨r0.toArray⟩):=ck;have S1:=xh S1;have EP:rest.length<=56:=nL hm;have pJ:rest.length+1<=nC/\nC<=maxLen:=by
  obtain⟨r,_,h1,_,h2⟩:=S1.o.oR;simp at h1;exact⟨by first|omega|(simp;omega),h2⟩
 clear ck vd KA hN hm;obtain⟨K0,xi⟩:∃K0:ByteArray,(⟨r0.toArray⟩:ByteArray)=K0:=⟨_,rfl⟩;rw[xi]at ET;have Cc:K0.toList=r0:=by rw[dk,<-xi]
 clear xi;have hk:K0.toList=[2]:=by rw[Cc];exact ug
 have I0:=xh ug;have k1:(K0.toList==[1])=false:=by rw[hk];decide
 have k2:(K0.toList==[2])=true:=by rw[hk];decide
 have k3:¬K0.toList=[1]:=by rw[hk];decide
 clear Cc hk;have n1:¬(rest.length:Int)+1=0:=by omega
 have n2:((rest.length:Int)+1==0)=false:=by simpa using n1
 have l8:¬nC=1:=λh=>by
  have:0<rest.length:=rE.2 eG;omega
 have R0:=xh (show az (w1.alloc (.cells #[.bool false,.slice none 0 0] 118)) w1.heap.size 118 #[.bool false,.slice none 0 0]from az.new w1 _ _);have R2:=xh (B1.o.alloc (.cells #[.bool false,.slice none 0 0] 118));have RS:=xh (S1.o.alloc (.cells #[.bool false,.slice none 0 0] 118));have RO:=xh (ao O1.o (ae (Below.refl _ _) (.cells #[.bool false,.slice none 0 0] 118)));go_wp2_with fail
 generalize hW6:(w1.alloc (.cells #[.bool false,.slice none 0 0] 118))=W6 at *;clear hW6 f0 f1 z0 z1 ET
 go_loopw [46] (λiv wr=> ∃(i:Nat) (v':Value),i<=rest.length/\iv=.int .i64 i/\az wr w1.heap.size 118 #[.bool false,v']/\az wr w.heap.size 118 #[.bool false,.slice none 0 0]/\aQ wr 111 3 v' i (ax ((rest.take i).map λr=>eZ ⟨r.toArray⟩))/\aQ wr 9 1 (.slice (some ⟨g,0,none⟩) (rest.length+1) nC) (rest.length+1) (strs (r0::rest))/\Hid (∀r∈rest.take i,fj ⟨r.toArray⟩)/\Below w.heap.size w wr/\Hid (∀x∈ah v',w1.heap.size+1<=x)) (λiv _=>rest.length-(intOf iv).toNat)
 case atStart=>exact⟨0,_,bq _,rfl,R0.o,R2.o,aQ.nil _ _ _,RS.o,xh (by simp),RO.o,xh (λx hx=>by simp[ah]at hx)⟩
 case round=>
  obtain⟨i,v',hi,rfl,C6,C2,S,RS,EO,O,F⟩:=hrel;obtain⟨VA,vc,rfl⟩:=aq S;have hltr:=C6.lt;have hg6:w1.heap.size∉ah (.slice VA i vc):=λhx=>by have:=F.o _ hx;omega
  have hg2:w.heap.size∉ah (.slice VA i vc):=λhx=>by have:=F.o _ hx;omega
  have EK:g∉ah (.slice VA i vc):=λhx=>by have:=F.o _ hx;omega
  by_cases h:i<rest.length
  .obtain⟨g',hgx,ck⟩:=iM RS (i+1) (by simp;omega);simp only[Option.some.injEq,Addr.mk.injEq,and_true]at hgx;subst hgx;have hri:(r0::rest)[i+1]'(by simp;omega)=rest[i]:=Ah ..;rw[hri]at ck;have mL:rest[i].length<=232:=ES.o _ (bY _ (ij h));have HT:=xh (iC h);obtain⟨T,hT⟩:∃T:ByteArray,(⟨rest[i].toArray⟩:ByteArray)=T:=⟨_,rfl⟩;have hTs:T.size<=232:=by rw[<-hT,Sl.size_of_list];exact mL
   rw[hT]at ck;have HTT:=xh hT;have ck2:wr.cell? ((⟨g,1,none⟩:Addr).add i)=some (.string T):=by rw[gU,qV];exact ck
   have hiI:(i:Int)<(rest.length:Int):=by omega
   have ck3:wr.cell? ⟨g,1+i,none⟩=some (.string T):=by rw[qV];exact ck
   clear hT hri mL
   by_cases ef:fj T
   .have KE:=xh (λw=>vg w T ef (by omega));have zQ:=xh ef;obtain⟨e,he⟩:∃e,eZ T=e:=⟨_,rfl⟩;rw[he]at KE;have HE:=xh he;have SL:=xh S;have CL:=xh C6;have xk:=xh C2;have RL:=xh RS;have OL:=xh O;unfold E.agg at KE;clear ef he S C6 C2 RS O;go_wp2_with fail;refine(KE.o _).mono ?_;rintro e' w2 ⟨rfl,bA⟩
    obtain⟨v2,w3,ea,S3,ow,f3⟩:=sX (P:=Tryz.prog) ((SL.o.below bA).alloc (.cells #[.string e.key,.string e.val,.int .i64 e.aY] 111)) 108 108 (.agg #[.string .empty,.string .empty,.int .i64 0]) 40 Tryz.underlying108 (by kernel_rfl) rfl e (by unfold maxLen;omega) (by omega);rw[pQ]at ea;obtain⟨V2,fs,rfl⟩:=aq S3;have EA:=xh ea;have O2:=xh ((ag.aj (S:=ah (.slice VA i vc)) bA).alloc (.cells #[.string e.key,.string e.val,.int .i64 e.aY] 111))
    have OW:=O2.o.trans ow;have CW:=((CL.o.below bA CL.o.lt).alloc (.cells #[.string e.key,.string e.val,.int .i64 e.aY] 111)).only ow hg6;have c61:((w2.alloc (.cells #[.string e.key,.string e.val,.int .i64 e.aY] 111))).cell? ⟨w1.heap.size,1,none⟩=some (.slice VA i vc):=((CL.o.below bA CL.o.lt).alloc (.cells #[.string e.key,.string e.val,.int .i64 e.aY] 111)).ab (i:=1) rfl;have fz:w3.frozen? ⟨w1.heap.size,1,none⟩=false:=CW.frozen 1 (by simp)
    have cz:w3.cell? ⟨w1.heap.size,1,none⟩=some (.slice VA i vc):=CW.ab (i:=1) rfl;have hsz2:wr.heap.size<=w2.heap.size:=bA.size;have OX:=OW.mono (S':=w1.heap.size::ah (.slice VA i vc)) (λx hx _=>bY _ hx)|>.setCell (p:=⟨w1.heap.size,1,none⟩) (λ_=>by simp) (.slice V2 (i+1) fs);have CX:=xh (CW.bt 1 (.slice V2 (i+1) fs));have C2X:=xh (xk.o.only OX (by simp;exact⟨by omega,hg2⟩))
    have RX:=xh (RL.o.only OX (λx hx=>by simp[ah]at hx;subst hx;simp;exact⟨by omega,EK⟩));have nU:∀x∈ah (.slice V2 (i+1) fs),w1.heap.size+1<=x:=λx hx=>(f3 x hx).elim (F.o x) (λh=>by rw[pQ]at h;omega);have FX:=xh nU;have SX:=xh (S3.only ((ag.refl [w1.heap.size] w3).setCell (p:=⟨w1.heap.size,1,none⟩) (λ_=>by simp) (.slice V2 (i+1) fs)) (λx hx=>by have:=nU x hx;simp;omega))
    have OB:=xh (OL.o.trans (OX.aE OL.o.size (λx hx=>by
     rcases aD.1 hx with rfl|hx
     .omega
     .have:=F.o x hx;omega)))
    have HSX:=xh (show ax ((rest.take (i+1)).map λr=>eZ ⟨r.toArray⟩)=ax ((rest.take i).map λr=>eZ ⟨r.toArray⟩)++e.cells from by
     rw[HT.o,eh,eH,eX,HTT.o,HE.o];simp[ax])
    have EX:=xh (show ∀r∈rest.take (i+1),fj ⟨r.toArray⟩from λr hr=>by
     rw[HT.o]at hr
     rcases aS.1 hr with hr|hr
     .exact EO.o r hr
     .simp only[cg]at hr;rw[hr,HTT.o];exact zQ.o)
    clear ea S3 ow f3 OW CW OX nU bA;go_wp2_with fail;rw[EA.o];go_wp2_with fail;go_roundw
    case rel=>exact⟨i+1,_,by omega,by go_num,CX.o,C2X.o,by rw[HSX.o];exact SX.o,RX.o,EX,OB.o,FX⟩
    case measure=>simp[intOf];omega
   .have KE:=xh (λw=>yG w T ef);have zQ:=xh ef;have HNO:=xh (show ¬fD (r0::rest)from λhx=>ef (by rw[<-HTT.o];exact hx.2.1 _ (by rw[iB];exact ij h)));have xk:=xh C2;have OL:=xh O;unfold E.agg E.zero at KE;clear ef S C6 C2 RS O;go_wp2_with fail;refine(KE.o _).mono ?_;rintro e' w2 ⟨rfl,bA⟩;have CW:=(xk.o.below bA xk.o.lt).alloc (.cells #[.string .empty,.string .empty,.int .i64 0] 111)
    have f0:(w2.alloc (.cells #[.string .empty,.string .empty,.int .i64 0] 111)).frozen? ⟨w.heap.size,0,none⟩=false:=CW.frozen 0 (by simp);have f1:(w2.alloc (.cells #[.string .empty,.string .empty,.int .i64 0] 111)).frozen? ⟨w.heap.size,1,none⟩=false:=CW.frozen 1 (by simp);have z0:(w2.alloc (.cells #[.string .empty,.string .empty,.int .i64 0] 111)).cell? ⟨w.heap.size,0,none⟩=some (.bool false):=CW.ab (i:=0) rfl
    have z1:(w2.alloc (.cells #[.string .empty,.string .empty,.int .i64 0] 111)).cell? ⟨w.heap.size,1,none⟩=some (.slice none 0 0):=CW.ab (i:=1) rfl;have CX:=xh ((CW.bt 0 (.bool false)).bt 1 (.slice none 0 0))
    have OX:=xh ((((ag.aj (S:=[]) (ao OL.o (ae bA (.cells #[.string .empty,.string .empty,.int .i64 0] 111)))).setCell (p:=⟨w.heap.size,0,none⟩) (λh=>absurd h (by simp)) (.bool false)).setCell (p:=⟨w.heap.size,1,none⟩) (λh=>absurd h (by simp)) (.slice none 0 0)).cK);have I1:=xk.o.lt;clear CW bA;go_wp2_with fail;exact bodyPost_ret (dS rfl rfl CX.o) rfl ⟨.inl ⟨HNO.o,rfl⟩,OX.o⟩
  .obtain rfl:i=rest.length:=by omega
   rw[jN]at S EO;have HE:=xh (show iO (r0::rest)=rest.map λr=>eZ ⟨r.toArray⟩from rfl);have Cd:=xh (show jV (r0::rest)=false from by simp[jV,I0.o]);rw[<-HE.o]at S;obtain⟨-,EN⟩:=aQ.ax S;have KM:=xh (mq (w:=wr) false VA rest.length vc (iO (r0::rest)) EN (by omega))
   have HF:=xh (show(cu (iO (r0::rest)) false->fD (r0::rest))/\(fD (r0::rest)->cu (iO (r0::rest)) false)from⟨λhm=>⟨by rw[I0.o];simp,EO.o,by rw[Cd.o];exact hm⟩,λhx=>by have:=hx.2.2;rw[Cd.o]at this;exact this⟩);have d0:wr.cell? ⟨w1.heap.size,0,none⟩=some (.bool false):=C6.ab (i:=0) rfl;have d1:wr.cell? ⟨w1.heap.size,1,none⟩=some (.slice VA rest.length vc):=C6.ab (i:=1) rfl;have SL:=xh S;have CL:=xh C6;have xk:=xh C2
   have OL:=xh O;unfold aV at KM;clear S C6 C2 RS O EN;go_wp2_with fail;refine KM.o.mono ?_;rintro e' w2 ⟨⟨b,rfl,hb⟩,bA⟩;have CW:=xk.o.below bA xk.o.lt;have CN:=CL.o.below bA CL.o.lt;have f0:w2.frozen? ⟨w.heap.size,0,none⟩=false:=CW.frozen 0 (by simp);have f1:w2.frozen? ⟨w.heap.size,1,none⟩=false:=CW.frozen 1 (by simp);have z0:w2.cell? ⟨w.heap.size,0,none⟩=some (.bool false):=CW.ab (i:=0) rfl
   have z1:w2.cell? ⟨w.heap.size,1,none⟩=some (.slice none 0 0):=CW.ab (i:=1) rfl;have y0:w2.cell? ⟨w1.heap.size,0,none⟩=some (.bool false):=CN.ab (i:=0) rfl;have y1:w2.cell? ⟨w1.heap.size,1,none⟩=some (.slice VA rest.length vc):=CN.ab (i:=1) rfl;have I1:=xk.o.lt
   cases b
   .have HNO:=xh (show ¬fD (r0::rest)from λhx=>by have:=hb.2 (HF.o.2 hx);cases this);have CX:=xh ((CW.bt 0 (.bool false)).bt 1 (.slice none 0 0));have OX:=xh ((((ag.aj (S:=[]) (ao OL.o bA)).setCell (p:=⟨w.heap.size,0,none⟩) (λh=>absurd h (by simp)) (.bool false)).setCell (p:=⟨w.heap.size,1,none⟩) (λh=>absurd h (by simp)) (.slice none 0 0)).cK);clear CW CN bA hb d0 d1;go_wp2_with fail
    exact bodyPost_ret (dS rfl rfl CX.o) rfl ⟨.inl ⟨HNO.o,rfl⟩,OX.o⟩
   .have Ce:=xh (HF.o.1 (hb.1 rfl));have CX:=xh ((CW.bt 0 (.bool false)).bt 1 (.slice VA rest.length vc));have OX:=xh ((((ag.aj (S:=[]) (ao OL.o bA)).setCell (p:=⟨w.heap.size,0,none⟩) (λh=>absurd h (by simp)) (.bool false)).setCell (p:=⟨w.heap.size,1,none⟩) (λh=>absurd h (by simp)) (.slice VA rest.length vc)).cK)
    have SX:=xh ((SL.o.below bA).only (((ag.refl [w.heap.size] w2).setCell (p:=⟨w.heap.size,0,none⟩) (λ_=>by simp) (.bool false)).setCell (p:=⟨w.heap.size,1,none⟩) (λ_=>by simp) (.slice VA rest.length vc)) (λx hx=>by simp;exact λhxx=>hg2 (hxx▸hx)));clear CW CN bA hb d0 d1;go_wp2_with fail;exact bodyPost_ret (dS rfl rfl CX.o) rfl ⟨.inr (⟨Ce.o,VA,rest.length,vc,by rw[Cd.o];rfl,SX.o,xh (λx hx=>by have:=F.o x hx;omega)⟩),OX.o⟩
def xl(s:ByteArray)(w:World)(e:Ending)(w':World):Prop:=
 (bo s.data.toList≠0/\e=.returned (.tuple #[aV false none 0 0,.int .i64 (bo s.data.toList)])/\Below w.heap.size w w')\/(bo s.data.toList=0/\jW (bQ s.data.toList) w e w')
theorem got_any(s:ByteArray)(w:World)(hs:s.size<=1000000):
  Calls Tryz.prog 122 #[.string s] w (xl s w):=by
 by_cases hq:bo s.data.toList=0
 .have lift:∀{rs},bQ s.data.toList=rs->Calls Tryz.prog 122 #[.string s] w (jW rs w)->Calls Tryz.prog 122 #[.string s] w (xl s w):=λh k=>k.mono λe w' h2=> .inr ⟨hq,by rw[h];exact h2⟩
  match kY:bQ s.data.toList with
  |[]=>exact lift kY (got_nil s w hs hq kY)
  |r0::rest=>
   refine lift kY ?_
   by_cases h1:r0=[1]
   .by_cases eG:rest=[]
    .subst eG;exact xj s w hs hq r0 h1 kY
    .exact ui s w hs hq r0 rest h1 eG kY
   .by_cases h2:r0=[2]
    .by_cases eG:rest=[]
     .subst eG;exact uj s w hs hq r0 h2 kY
     .exact ta s w hs hq r0 rest h2 eG kY
    .exact got_odd s w hs hq r0 rest h1 h2 kY
 .have HQ:=xh hq;have B0:=az.new w 118 #[.bool false,.slice none 0 0];have O0:=ae (Below.refl w.heap.size w) (.cells #[.bool false,.slice none 0 0] 118);have KA:=xh (jU s (w.alloc (.cells #[.bool false,.slice none 0 0] 118)) hs);unfold xl aV;have O0:=xh O0;have B0:=xh B0;unfold je at KA;generalize bo s.data.toList=q at *;go_enter Tryz.func122,Tryz.ntmps122;go_wp2_with fail;refine KA.o.mono ?_;rintro e w1 ⟨v,rfl,aI,fr,hv⟩
  rcases hv with⟨h0,-⟩|⟨-,rfl⟩
  .exact absurd h0 hq
  have O1:=xh (ao O0.o aI);have B1:=xh (B0.o.below aI B0.o.lt);have f0:w1.frozen? ⟨w.heap.size,0,none⟩=false:=B1.o.frozen 0 (by simp);have f1:w1.frozen? ⟨w.heap.size,1,none⟩=false:=B1.o.frozen 1 (by simp);have z0:w1.cell? ⟨w.heap.size,0,none⟩=some (.bool false):=B1.o.ab (i:=0) rfl;have z1:w1.cell? ⟨w.heap.size,1,none⟩=some (.slice none 0 0):=B1.o.ab (i:=1) rfl;have BZ:=xh ((B1.o.bt 0 (.bool false)).bt 1 (.slice none 0 0))
  have OZ:=xh (((((ag.aj (S:=[]) O1.o).setCell (p:=⟨w.heap.size,0,none⟩) (λh=>absurd h (by simp)) (.bool false)).setCell (p:=⟨w.heap.size,1,none⟩) (λh=>absurd h (by simp)) (.slice none 0 0))).cK);have q2:(q==0)=false:=by simpa using hq
  clear fr aI KA;go_wp2_with fail;exact bodyPost_ret (dS rfl rfl BZ.o) rfl (.inl ⟨HQ.o,rfl,OZ.o⟩)
end Go.Proofs.YtmonobkginiajaaGreat.Nd
namespace Go.Proofs.YtmonobkginiajaaGreat.Nd
open Go.RowKit Sl
variable{l:List E}{leaf:Bool}
theorem mr(e:E):(oC e).data.toList=lP e:=by simp[oC]
theorem EU(e:E):(lP e).drop 1=e.key.data.toList++(dV (e.aY+1).toNat++e.val.data.toList):=rfl
theorem td(e:E)(h:e.key.size<=32):jG (oC e)=e.key.size:=by
 unfold jG;rw[mr];show(UInt8.ofNat e.key.size).toNat=e.key.size;rw[fV];omega
theorem vj(e:E):(oC e).size=3+e.key.size+e.val.size:=by
 unfold oC;rw[Sl.size_of_list,lQ]
theorem yI(e:E)(h:e.key.size<=32):fj (oC e):=by
 unfold fj;rw[td e h,vj];omega
theorem keyL(e:E):e.key.data.toList.length=e.key.size:=by simp
theorem Cf(e:E)(h:e.key.size<=32)(h1: -1<=e.aY)(h2:e.aY<=511):eZ (oC e)=e:=by
 obtain⟨m,hm⟩:=dn (show 0<=e.aY+1 by omega);have hk:=keyL e;have hd:=EU e;have d2:(lP e).drop (1+e.key.size)=dV (e.aY+1).toNat++e.val.data.toList:=by
  rw[<-fY,hd,vK (by omega),<-hk,List.drop_length,eA]
 have d3:(lP e).drop (3+e.key.size)=e.val.data.toList:=by
  rw[show 3+e.key.size=(1+e.key.size)+2 by omega,<-fY,d2];rfl
 unfold eZ;rw[td e h];have a1:(oC e).extract 1 (1+e.key.size)=e.key:=by
  rw[kW,mr,hd,lX (by omega),<-hk,jN]
 have a2:(oC e).extract (3+e.key.size) (oC e).size=e.val:=by
  rw[vj,kW,mr,d3,bK (by simp)]
 have a3:bl (oC e).data.toList (1+e.key.size)=m:=by
  rw[mr];have g0:(lP e).getD (1+e.key.size) 0=UInt8.ofNat (m / 256):=by
   have:=congrArg (λl=>l.getD 0 0) d2;simp only[ig,gF,iD]at this;rw[ig,this,hm];rfl
  have g1:(lP e).getD (1+e.key.size+1) 0=UInt8.ofNat m:=by
   have:=congrArg (λl=>l.getD 1 0) d2;simp only[ig,gF]at this;rw[ig,this,hm];rfl
  unfold bl;rw[g0,g1,fV,fV];omega
 rw[a1,a2,a3];obtain⟨k,v,f⟩:=e;dsimp only at *;rw[show((m:Nat):Int)-1=f by omega]
theorem te(hm:cu l leaf)(e:E)(he:e∈l):e.key.size<=32/\e.val.size<=40/\ -1<=e.aY/\e.aY<=511:=by
 obtain⟨i,hi,rfl⟩:=ly he;have h2:=(sW l[i] leaf).1 (hm i hi l[i] (aN hi)).1;exact⟨h2.1,h2.2.1,h2.2.2.1,h2.2.2.2.1⟩
theorem tf(hm:cu l leaf):iO (fm leaf l)=l:=by
 unfold iO fm;rw[iB,oW];have:l.map ((λr=>eZ ⟨r.toArray⟩) ∘ lP)=l.map id:=by
  apply jy;intro e he;obtain⟨b1,b2,b3,b4⟩:=te hm e he;exact Cf e b1 b3 b4
 rw[this,List.map_id]
theorem tg(leaf:Bool)(l:List E):jV (fm leaf l)=leaf:=by
 unfold jV fm vi
 cases leaf<;>simp
theorem yJ(hm:cu l leaf):fD (fm leaf l):=by
 refine⟨?_,?_,?_⟩
 .unfold fm vi
  cases leaf<;>simp
 .intro r hr;unfold fm at hr;rw[iB]at hr;obtain⟨e,he,rfl⟩:=eo.1 hr;exact yI e (te hm e he).1
 .rw[tf hm,tg];exact hm
def l0:List E:=[⟨⟨#[97]⟩,⟨#[120]⟩,-1⟩,⟨⟨#[99]⟩,⟨#[]⟩,7⟩]
end Go.Proofs.YtmonobkginiajaaGreat.Nd
