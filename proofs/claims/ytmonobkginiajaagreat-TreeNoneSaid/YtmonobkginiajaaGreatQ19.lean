/- packed. -/
import Derived.Test.YtmonobkginiajaaGreatQ18
set_option linter.all false
set_option maxRecDepth 100000
set_option maxHeartbeats 8000000
namespace Go.Proofs.YtmonobkginiajaaGreat.Nd
open Go.RowKit Sl
attribute [local go_sem ↓] Go.wp_at_zero Go.wp_at_succ aX
def j9 (rs:List (List UInt8)):Bool:=decide (rs.head?=some [1])
def iV (rs:List (List UInt8)):List E:=rs.tail.map fun r=>ft ⟨r.toArray⟩
def fR (rs:List (List UInt8)):Prop:=(rs.head?=some [1]∨rs.head?=some [2])∧(∀r∈rs.tail,fE ⟨r.toArray⟩)∧cM (iV rs) (j9 rs)
def ke (rs:List (List UInt8)) (w:World) (e:Ending) (w':World):Prop:=
 ((¬fR rs∧e= .returned (.tuple #[aT false none 0 0,.int .i64 14]))∨
  (fR rs∧ ∃A n c,e= .returned (.tuple #[aT (j9 rs) A n c,.int .i64 0])∧aG w' 111 3 (.slice A n c) n (aw (iV rs))∧Hid (∀g∈ah (.slice A n c),w.heap.size≤g)))∧Below w.heap.size w w'
theorem got_nil (s:ByteArray) (w:World) (hs:s.size≤1000000) (hq:bw s.data.toList=0) (lD:bX s.data.toList=[]):
  Calls Tryz.prog 122 #[.string s] w (ke ([]) w):=by
 have B0:=ax.new w 118 #[.bool false,.slice none 0 0];have O0:=ae (Below.refl w.heap.size w) (.cells #[.bool false,.slice none 0 0] 118);have KA:=xh (j8 s (w.alloc (.cells #[.bool false,.slice none 0 0] 118)) hs);unfold ke aT;have O0:=xh O0;have B0:=xh B0;have hS:=(dj _).1 hq;have hm:=jx hS;have Ha:=xh (iA hS);have hN:=bY s.data.toList;obtain ⟨N,ux⟩: ∃N,bh s.data.toList 0=N:=⟨_,rfl⟩;unfold jn at KA
 rw [hq,lD,ux] at KA;rw [lD,ux] at hN;rw [lD] at hm Ha;clear hS hq lD ux;go_enter Tryz.func122,Tryz.ntmps122;go_wp2_with fail;refine KA.out.mono ?_;rintro e w1 ⟨v,rfl,aM,fr,hv⟩;have S1:aG w1 9 1 v N (strs []):=hv.elim (fun h=>h.2) (fun h=>absurd rfl h.1);have xc: ∀x∈ah v,w.heap.size+1≤x:=fun x hx=>by have:=fr x hx; rw [qJ] at this; exact this
 obtain ⟨V1,oF,rfl⟩:=aq S1;have O1:=xh (ao O0.out aM);have B1:=xh (B0.out.below aM B0.out.lt);have f0:w1.frozen? ⟨w.heap.size,0,none⟩=false:=B1.out.frozen 0 (by simp);have f1:w1.frozen? ⟨w.heap.size,1,none⟩=false:=B1.out.frozen 1 (by simp);have z0:w1.cell? ⟨w.heap.size,0,none⟩=some (.bool false):=B1.out.ab (i:=0) rfl;have z1:w1.cell? ⟨w.heap.size,1,none⟩=some (.slice none 0 0):=B1.out.ab (i:=1) rfl
 have BZ:=xh ((B1.out.bq 0 (.bool false)).bq 1 (.slice none 0 0));have OZ:=xh (((((ag.ak (S:=[]) O1.out).setCell (p:=⟨w.heap.size,0,none⟩) (fun h=>absurd h (by simp)) (.bool false)).setCell (p:=⟨w.heap.size,1,none⟩) (fun h=>absurd h (by simp)) (.slice none 0 0))).cZ);clear fr aM hv;obtain rfl:N=0:=by simpa using hN.symm
 go_wp2_with fail;exact bodyPost_ret (dV rfl rfl BZ.out) rfl ⟨.inl ⟨by simp [fR],rfl⟩,OZ.out⟩
theorem got_odd (s:ByteArray) (w:World) (hs:s.size≤1000000) (hq:bw s.data.toList=0) (r0:List UInt8) (rest:List (List UInt8)) (h1: ¬r0=[1]) (h2: ¬r0=[2]) (lD:bX s.data.toList=r0::rest):
  Calls Tryz.prog 122 #[.string s] w (ke (r0::rest) w):=by
 have B0:=ax.new w 118 #[.bool false,.slice none 0 0];have O0:=ae (Below.refl w.heap.size w) (.cells #[.bool false,.slice none 0 0] 118);have KA:=xh (j8 s (w.alloc (.cells #[.bool false,.slice none 0 0] 118)) hs);unfold ke aT;have O0:=xh O0;have B0:=xh B0;have hS:=(dj _).1 hq;have hm:=jx hS;have Ha:=xh (iA hS);have hN:=bY s.data.toList;obtain ⟨N,ux⟩: ∃N,bh s.data.toList 0=N:=⟨_,rfl⟩;unfold jn at KA
 rw [hq,lD,ux] at KA;rw [lD,ux] at hN;rw [lD] at hm Ha;clear hS hq lD ux;go_enter Tryz.func122,Tryz.ntmps122;go_wp2_with fail;refine KA.out.mono ?_;rintro e w1 ⟨v,rfl,aM,fr,hv⟩;have S1:aG w1 9 1 v N (strs (r0::rest)):=hv.elim (fun h=>h.2) (fun h=>absurd rfl h.1);have xc: ∀x∈ah v,w.heap.size+1≤x:=fun x hx=>by have:=fr x hx; rw [qJ] at this; exact this
 obtain ⟨V1,oF,rfl⟩:=aq S1;have O1:=xh (ao O0.out aM);have B1:=xh (B0.out.below aM B0.out.lt);have f0:w1.frozen? ⟨w.heap.size,0,none⟩=false:=B1.out.frozen 0 (by simp);have f1:w1.frozen? ⟨w.heap.size,1,none⟩=false:=B1.out.frozen 1 (by simp);have z0:w1.cell? ⟨w.heap.size,0,none⟩=some (.bool false):=B1.out.ab (i:=0) rfl;have z1:w1.cell? ⟨w.heap.size,1,none⟩=some (.slice none 0 0):=B1.out.ab (i:=1) rfl
 have BZ:=xh ((B1.out.bq 0 (.bool false)).bq 1 (.slice none 0 0));have OZ:=xh (((((ag.ak (S:=[]) O1.out).setCell (p:=⟨w.heap.size,0,none⟩) (fun h=>absurd h (by simp)) (.bool false)).setCell (p:=⟨w.heap.size,1,none⟩) (fun h=>absurd h (by simp)) (.slice none 0 0))).cZ);clear fr aM hv;obtain rfl:N=rest.length+1:=by simpa using hN.symm
 obtain ⟨g,rfl,ck⟩:=iT S1 0 (by simp);have hgw:w.heap.size<g:=xc g (by simp [ah]);have hgl:g<w1.heap.size:=S1.lt g (by simp [ah]);have hwl1:=B1.out.lt;have Hb:w1.cell? ⟨g,0,none⟩=some (.string ⟨r0.toArray⟩):=ck;have S1:=xh S1;have Dj:rest.length≤56:=Nat.le_of_succ_le_succ hm;have qC:rest.length+1≤oF∧oF≤maxLen:=by
  obtain ⟨r,_,h1,_,h2⟩:=S1.out.oM;simp at h1;exact ⟨by first | omega | (simp; omega),h2⟩
 clear ck xc KA hN hm;obtain ⟨K0,yM⟩: ∃K0:ByteArray,(⟨r0.toArray⟩:ByteArray)=K0:=⟨_,rfl⟩;rw [yM] at Hb;have DR:K0.toList=r0:=by rw [bZ,←yM]
 clear yM;have n1: ¬(rest.length:Int)+1=0:=by omega
 have n2:((rest.length:Int)+1==0)=false:=by simpa using n1
 rw [←DR] at h1 h2;have k1:(K0.toList==[1])=false:=by simpa using h1
 have k2:(K0.toList==[2])=false:=by simpa using h2
 have HNO:=xh (show ¬fR (r0::rest) from fun hx=>by
  have:=hx.1;simp only [List.head?_cons,Option.some.injEq] at this;rw [←DR] at this;exact this.elim h1 h2)
 clear DR;go_wp2_with fail;exact bodyPost_ret (dV rfl rfl BZ.out) rfl ⟨.inl ⟨HNO.out,rfl⟩,OZ.out⟩
theorem yN (s:ByteArray) (w:World) (hs:s.size≤1000000) (hq:bw s.data.toList=0) (r0:List UInt8) (vS:r0=[1]) (lD:bX s.data.toList=[r0]):
  Calls Tryz.prog 122 #[.string s] w (ke ([r0]) w):=by
 have B0:=ax.new w 118 #[.bool false,.slice none 0 0];have O0:=ae (Below.refl w.heap.size w) (.cells #[.bool false,.slice none 0 0] 118);have KA:=xh (j8 s (w.alloc (.cells #[.bool false,.slice none 0 0] 118)) hs);unfold ke aT;have O0:=xh O0;have B0:=xh B0;have hS:=(dj _).1 hq;have hm:=jx hS;have Ha:=xh (iA hS);have hN:=bY s.data.toList;obtain ⟨N,ux⟩: ∃N,bh s.data.toList 0=N:=⟨_,rfl⟩;unfold jn at KA
 rw [hq,lD,ux] at KA;rw [lD,ux] at hN;rw [lD] at hm Ha;clear hS hq lD ux;go_enter Tryz.func122,Tryz.ntmps122;go_wp2_with fail;refine KA.out.mono ?_;rintro e w1 ⟨v,rfl,aM,fr,hv⟩;have S1:aG w1 9 1 v N (strs [r0]):=hv.elim (fun h=>h.2) (fun h=>absurd rfl h.1);have xc: ∀x∈ah v,w.heap.size+1≤x:=fun x hx=>by have:=fr x hx; rw [qJ] at this; exact this
 obtain ⟨V1,oF,rfl⟩:=aq S1;have O1:=xh (ao O0.out aM);have B1:=xh (B0.out.below aM B0.out.lt);have f0:w1.frozen? ⟨w.heap.size,0,none⟩=false:=B1.out.frozen 0 (by simp);have f1:w1.frozen? ⟨w.heap.size,1,none⟩=false:=B1.out.frozen 1 (by simp);have z0:w1.cell? ⟨w.heap.size,0,none⟩=some (.bool false):=B1.out.ab (i:=0) rfl;have z1:w1.cell? ⟨w.heap.size,1,none⟩=some (.slice none 0 0):=B1.out.ab (i:=1) rfl
 have BZ:=xh ((B1.out.bq 0 (.bool false)).bq 1 (.slice none 0 0));have OZ:=xh (((((ag.ak (S:=[]) O1.out).setCell (p:=⟨w.heap.size,0,none⟩) (fun h=>absurd h (by simp)) (.bool false)).setCell (p:=⟨w.heap.size,1,none⟩) (fun h=>absurd h (by simp)) (.slice none 0 0))).cZ);clear fr aM hv;obtain rfl:N=([]:List (List UInt8)).length+1:=by simpa using hN.symm
 obtain ⟨g,rfl,ck⟩:=iT S1 0 (by simp);have hgw:w.heap.size<g:=xc g (by simp [ah]);have hgl:g<w1.heap.size:=S1.lt g (by simp [ah]);have hwl1:=B1.out.lt;have Hb:w1.cell? ⟨g,0,none⟩=some (.string ⟨r0.toArray⟩):=ck;have S1:=xh S1;have Dj:([]:List (List UInt8)).length≤56:=Nat.le_of_succ_le_succ hm;have qC:([]:List (List UInt8)).length+1≤oF∧oF≤maxLen:=by
  obtain ⟨r,_,h1,_,h2⟩:=S1.out.oM;simp at h1;exact ⟨by first | omega | (simp; omega),h2⟩
 clear ck xc KA hN hm;obtain ⟨K0,yM⟩: ∃K0:ByteArray,(⟨r0.toArray⟩:ByteArray)=K0:=⟨_,rfl⟩;rw [yM] at Hb;have DR:K0.toList=r0:=by rw [bZ,←yM]
 clear yM;have hk:K0.toList=[1]:=by rw [DR]; exact vS
 have Lz:=xh vS;have k1:(K0.toList==[1])=true:=by rw [hk]; decide
 have k2:(K0.toList==[2])=false:=by rw [hk]; decide
 have k3:K0.toList=[1]:=by rw [hk]
 clear DR hk;have R0:=xh (show ax (w1.alloc (.cells #[.bool true,.slice none 0 0] 118)) w1.heap.size 118 #[.bool true,.slice none 0 0] from ax.new w1 _ _);have R2:=xh (B1.out.alloc (.cells #[.bool true,.slice none 0 0] 118));have RO:=xh (ao O1.out (ae (Below.refl _ _) (.cells #[.bool true,.slice none 0 0] 118)));have DS:=xh (show j9 [r0]=true from by simp [j9,Lz.out])
 have HM:=xh (show cM ([]:List E) true from fun i hi=>absurd hi (Nat.not_lt_zero _));have DT:=xh (show fR [r0] from ⟨by rw [Lz.out]; simp,by simp,by rw [DS.out]; exact HM.out⟩)
 by_cases lz:oF=1
 all_goals
  go_wp2_with fail;generalize hW6:(w1.alloc (.cells #[.bool true,.slice none 0 0] 118))=W6 at *;clear hW6 f0 f1 z0 z1 Hb;have KM:=xh (mS (w:=W6) true none 0 0 [] (show lk W6 none 0 [] from ⟨rfl,fun k e h=>by simp at h⟩) (by omega));unfold aT at KM
  go_loopw [46] (fun iv wr=>iv= .int .i64 0∧wr=W6) (fun _ _=>0)
  case atStart=>exact ⟨rfl,rfl⟩
  case round=>
   obtain ⟨rfl,rfl⟩:=hrel;have d0:wr.cell? ⟨w1.heap.size,0,none⟩=some (.bool true):=R0.out.ab (i:=0) rfl;have d1:wr.cell? ⟨w1.heap.size,1,none⟩=some (.slice none 0 0):=R0.out.ab (i:=1) rfl;go_wp2_with fail;refine KM.out.mono ?_;rintro e' w2 ⟨⟨b,rfl,hb⟩,bT⟩;obtain rfl:=hb.2 HM.out;have CW:=R2.out.below bT R2.out.lt;have CN:=R0.out.below bT R0.out.lt;have f0:w2.frozen? ⟨w.heap.size,0,none⟩=false:=CW.frozen 0 (by simp)
   have f1:w2.frozen? ⟨w.heap.size,1,none⟩=false:=CW.frozen 1 (by simp);have z0:w2.cell? ⟨w.heap.size,0,none⟩=some (.bool false):=CW.ab (i:=0) rfl;have z1:w2.cell? ⟨w.heap.size,1,none⟩=some (.slice none 0 0):=CW.ab (i:=1) rfl;have y0:w2.cell? ⟨w1.heap.size,0,none⟩=some (.bool true):=CN.ab (i:=0) rfl;have y1:w2.cell? ⟨w1.heap.size,1,none⟩=some (.slice none 0 0):=CN.ab (i:=1) rfl;have LA:=R2.out.lt;have CX:=xh ((CW.bq 0 (.bool true)).bq 1 (.slice none 0 0))
   have OX:=xh ((((ag.ak (S:=[]) (ao RO.out bT)).setCell (p:=⟨w.heap.size,0,none⟩) (fun h=>absurd h (by simp)) (.bool true)).setCell (p:=⟨w.heap.size,1,none⟩) (fun h=>absurd h (by simp)) (.slice none 0 0)).cZ);clear CW CN bT hb d0 d1;go_wp2_with fail;exact bodyPost_ret (dV rfl rfl CX.out) rfl ⟨.inr ⟨DT.out,none,0,0,by rw [DS.out]; rfl,aG.nil _ _ _,xh (fun x hx=>by simp [ah] at hx)⟩,OX.out⟩
theorem vU (s:ByteArray) (w:World) (hs:s.size≤1000000) (hq:bw s.data.toList=0) (r0:List UInt8) (rest:List (List UInt8)) (vS:r0=[1]) (eg:rest≠[]) (lD:bX s.data.toList=r0::rest):
  Calls Tryz.prog 122 #[.string s] w (ke (r0::rest) w):=by
 have B0:=ax.new w 118 #[.bool false,.slice none 0 0];have O0:=ae (Below.refl w.heap.size w) (.cells #[.bool false,.slice none 0 0] 118);have KA:=xh (j8 s (w.alloc (.cells #[.bool false,.slice none 0 0] 118)) hs);unfold ke aT;have O0:=xh O0;have B0:=xh B0;have hS:=(dj _).1 hq;have hm:=jx hS;have Ha:=xh (iA hS);have hN:=bY s.data.toList;obtain ⟨N,ux⟩: ∃N,bh s.data.toList 0=N:=⟨_,rfl⟩;unfold jn at KA
 rw [hq,lD,ux] at KA;rw [lD,ux] at hN;rw [lD] at hm Ha;clear hS hq lD ux;go_enter Tryz.func122,Tryz.ntmps122;go_wp2_with fail;refine KA.out.mono ?_;rintro e w1 ⟨v,rfl,aM,fr,hv⟩;have S1:aG w1 9 1 v N (strs (r0::rest)):=hv.elim (fun h=>h.2) (fun h=>absurd rfl h.1);have xc: ∀x∈ah v,w.heap.size+1≤x:=fun x hx=>by have:=fr x hx; rw [qJ] at this; exact this
 obtain ⟨V1,oF,rfl⟩:=aq S1;have O1:=xh (ao O0.out aM);have B1:=xh (B0.out.below aM B0.out.lt);have f0:w1.frozen? ⟨w.heap.size,0,none⟩=false:=B1.out.frozen 0 (by simp);have f1:w1.frozen? ⟨w.heap.size,1,none⟩=false:=B1.out.frozen 1 (by simp);have z0:w1.cell? ⟨w.heap.size,0,none⟩=some (.bool false):=B1.out.ab (i:=0) rfl;have z1:w1.cell? ⟨w.heap.size,1,none⟩=some (.slice none 0 0):=B1.out.ab (i:=1) rfl
 have BZ:=xh ((B1.out.bq 0 (.bool false)).bq 1 (.slice none 0 0));have OZ:=xh (((((ag.ak (S:=[]) O1.out).setCell (p:=⟨w.heap.size,0,none⟩) (fun h=>absurd h (by simp)) (.bool false)).setCell (p:=⟨w.heap.size,1,none⟩) (fun h=>absurd h (by simp)) (.slice none 0 0))).cZ);clear fr aM hv;obtain rfl:N=rest.length+1:=by simpa using hN.symm
 obtain ⟨g,rfl,ck⟩:=iT S1 0 (by simp);have hgw:w.heap.size<g:=xc g (by simp [ah]);have hgl:g<w1.heap.size:=S1.lt g (by simp [ah]);have hwl1:=B1.out.lt;have Hb:w1.cell? ⟨g,0,none⟩=some (.string ⟨r0.toArray⟩):=ck;have S1:=xh S1;have Dj:rest.length≤56:=Nat.le_of_succ_le_succ hm;have qC:rest.length+1≤oF∧oF≤maxLen:=by
  obtain ⟨r,_,h1,_,h2⟩:=S1.out.oM;simp at h1;exact ⟨by first | omega | (simp; omega),h2⟩
 clear ck xc KA hN hm;obtain ⟨K0,yM⟩: ∃K0:ByteArray,(⟨r0.toArray⟩:ByteArray)=K0:=⟨_,rfl⟩;rw [yM] at Hb;have DR:K0.toList=r0:=by rw [bZ,←yM]
 clear yM;have hk:K0.toList=[1]:=by rw [DR]; exact vS
 have Lz:=xh vS;have k1:(K0.toList==[1])=true:=by rw [hk]; decide
 have k2:(K0.toList==[2])=false:=by rw [hk]; decide
 have k3:K0.toList=[1]:=by rw [hk]
 clear DR hk;have n1: ¬(rest.length:Int)+1=0:=by omega
 have n2:((rest.length:Int)+1==0)=false:=by simpa using n1
 have lz: ¬oF=1:=fun h=>by
  have:0<rest.length:=List.length_pos_iff.2 eg;omega
 have R0:=xh (show ax (w1.alloc (.cells #[.bool true,.slice none 0 0] 118)) w1.heap.size 118 #[.bool true,.slice none 0 0] from ax.new w1 _ _);have R2:=xh (B1.out.alloc (.cells #[.bool true,.slice none 0 0] 118));have RS:=xh (S1.out.alloc (.cells #[.bool true,.slice none 0 0] 118));have RO:=xh (ao O1.out (ae (Below.refl _ _) (.cells #[.bool true,.slice none 0 0] 118)));go_wp2_with fail;generalize hW6:(w1.alloc (.cells #[.bool true,.slice none 0 0] 118))=W6 at *
 clear hW6 f0 f1 z0 z1 Hb
 go_loopw [46] (fun iv wr=> ∃(i:Nat) (v':Value),i≤rest.length∧iv= .int .i64 i∧ax wr w1.heap.size 118 #[.bool true,v']∧ax wr w.heap.size 118 #[.bool false,.slice none 0 0]∧aG wr 111 3 v' i (aw ((rest.take i).map fun r=>ft ⟨r.toArray⟩))∧aG wr 9 1 (.slice (some ⟨g,0,none⟩) (rest.length+1) oF) (rest.length+1) (strs (r0::rest))∧Hid (∀r∈rest.take i,fE ⟨r.toArray⟩)∧Below w.heap.size w wr∧Hid (∀x∈ah v',w1.heap.size+1≤x)) (fun iv _=>rest.length-(intOf iv).toNat)
 case atStart=>exact ⟨0,_,Nat.zero_le _,rfl,R0.out,R2.out,aG.nil _ _ _,RS.out,xh (by simp),RO.out,xh (fun x hx=>by simp [ah] at hx)⟩
 case round=>
  obtain ⟨i,v',hi,rfl,C6,C2,S,RS,EO,O,F⟩:=hrel;obtain ⟨VA,vc,rfl⟩:=aq S;have hltr:=C6.lt;have hg6:w1.heap.size∉ah (.slice VA i vc):=fun hx=>by have:=F.out _ hx; omega
  have hg2:w.heap.size∉ah (.slice VA i vc):=fun hx=>by have:=F.out _ hx; omega
  have G5:g∉ah (.slice VA i vc):=fun hx=>by have:=F.out _ hx; omega
  by_cases h:i<rest.length
  ·obtain ⟨g',hgx,ck⟩:=iT RS (i+1) (by simp; omega);simp only [Option.some.injEq,Addr.mk.injEq,and_true] at hgx;subst hgx;have hri:(r0::rest)[i+1]'(by simp; omega)=rest[i]:=List.getElem_cons_succ ..;rw [hri] at ck;have lK:rest[i].length≤232:=Ha.out _ (List.mem_cons_of_mem _ (List.getElem_mem h));have HT:=xh (List.take_succ_eq_append_getElem h);obtain ⟨T,hT⟩: ∃T:ByteArray,(⟨rest[i].toArray⟩:ByteArray)=T:=⟨_,rfl⟩;have hTs:T.size≤232:=by rw [←hT,Sl.size_of_list]; exact lK
   rw [hT] at ck;have HTT:=xh hT;have ck2:wr.cell? ((⟨g,1,none⟩:Addr).add i)=some (.string T):=by rw [eX,Nat.add_comm]; exact ck
   have hiI:(i:Int)<(rest.length:Int):=by omega
   have ck3:wr.cell? ⟨g,1+i,none⟩=some (.string T):=by rw [Nat.add_comm]; exact ck
   clear hT hri lK
   by_cases dS:fE T
   ·have KE:=xh (fun w=>xg w T dS (by omega));have BV:=xh dS;obtain ⟨e,he⟩: ∃e,ft T=e:=⟨_,rfl⟩;rw [he] at KE;have HE:=xh he;have SL:=xh S;have CL:=xh C6;have yO:=xh C2;have RL:=xh RS;have OL:=xh O;unfold E.agg at KE;clear dS he S C6 C2 RS O;go_wp2_with fail;refine (KE.out _).mono ?_;rintro e' w2 ⟨rfl,bT⟩
    obtain ⟨v2,w3,ea,S3,ow,f3⟩:=n8 (P:=Tryz.prog) ((SL.out.below bT).alloc (.cells #[.string e.key,.string e.val,.int .i64 e.aH] 111)) 108 108 (.agg #[.string .empty,.string .empty,.int .i64 0]) 40 Tryz.underlying108 (by kernel_rfl) rfl e (by unfold maxLen; omega) (by omega);rw [qJ] at ea;obtain ⟨V2,fu,rfl⟩:=aq S3;have EA:=xh ea;have O2:=xh ((ag.ak (S:=ah (.slice VA i vc)) bT).alloc (.cells #[.string e.key,.string e.val,.int .i64 e.aH] 111))
    have OW:=O2.out.trans ow;have CW:=((CL.out.below bT CL.out.lt).alloc (.cells #[.string e.key,.string e.val,.int .i64 e.aH] 111)).only ow hg6;have c61:((w2.alloc (.cells #[.string e.key,.string e.val,.int .i64 e.aH] 111))).cell? ⟨w1.heap.size,1,none⟩=some (.slice VA i vc):=((CL.out.below bT CL.out.lt).alloc (.cells #[.string e.key,.string e.val,.int .i64 e.aH] 111)).ab (i:=1) rfl;have fz:w3.frozen? ⟨w1.heap.size,1,none⟩=false:=CW.frozen 1 (by simp)
    have cz:w3.cell? ⟨w1.heap.size,1,none⟩=some (.slice VA i vc):=CW.ab (i:=1) rfl;have hsz2:wr.heap.size≤w2.heap.size:=bT.size;have OX:=OW.mono (S':=w1.heap.size::ah (.slice VA i vc)) (fun x hx _=>List.mem_cons_of_mem _ hx) |>.setCell (p:=⟨w1.heap.size,1,none⟩) (fun _=>by simp) (.slice V2 (i+1) fu);have CX:=xh (CW.bq 1 (.slice V2 (i+1) fu));have C2X:=xh (yO.out.only OX (by simp; exact ⟨by omega,hg2⟩))
    have RX:=xh (RL.out.only OX (fun x hx=>by simp [ah] at hx; subst hx; simp; exact ⟨by omega,G5⟩));have nz: ∀x∈ah (.slice V2 (i+1) fu),w1.heap.size+1≤x:=fun x hx=>(f3 x hx).elim (F.out x) (fun h=>by rw [qJ] at h; omega);have FX:=xh nz;have SX:=xh (S3.only ((ag.refl [w1.heap.size] w3).setCell (p:=⟨w1.heap.size,1,none⟩) (fun _=>by simp) (.slice V2 (i+1) fu)) (fun x hx=>by have:=nz x hx; simp; omega))
    have OB:=xh (OL.out.trans (OX.ay OL.out.size (fun x hx=>by
     rcases List.mem_cons.1 hx with rfl | hx
     ·omega
     ·have:=F.out x hx; omega)))
    have HSX:=xh (show aw ((rest.take (i+1)).map fun r=>ft ⟨r.toArray⟩)=aw ((rest.take i).map fun r=>ft ⟨r.toArray⟩)++e.cells from by
     rw [HT.out,List.map_append,eE,List.map_cons,HTT.out,HE.out]; simp [aw])
    have EX:=xh (show ∀r∈rest.take (i+1),fE ⟨r.toArray⟩ from fun r hr=>by
     rw [HT.out] at hr
     rcases List.mem_append.1 hr with hr | hr
     ·exact EO.out r hr
     ·simp only [List.mem_singleton] at hr;rw [hr,HTT.out]; exact BV.out)
    clear ea S3 ow f3 OW CW OX nz bT;go_wp2_with fail;rw [EA.out];go_wp2_with fail;go_roundw
    case rel=>exact ⟨i+1,_,by omega,by go_num,CX.out,C2X.out,by rw [HSX.out]; exact SX.out,RX.out,EX,OB.out,FX⟩
    case measure=>simp [intOf]; omega
   ·have KE:=xh (fun w=>AE w T dS);have BV:=xh dS;have HNO:=xh (show ¬fR (r0::rest) from fun hx=>dS (by rw [←HTT.out]; exact hx.2.1 _ (by rw [List.tail_cons]; exact List.getElem_mem h)));have yO:=xh C2;have OL:=xh O;unfold E.agg E.zero at KE;clear dS S C6 C2 RS O;go_wp2_with fail;refine (KE.out _).mono ?_;rintro e' w2 ⟨rfl,bT⟩;have CW:=(yO.out.below bT yO.out.lt).alloc (.cells #[.string .empty,.string .empty,.int .i64 0] 111)
    have f0:(w2.alloc (.cells #[.string .empty,.string .empty,.int .i64 0] 111)).frozen? ⟨w.heap.size,0,none⟩=false:=CW.frozen 0 (by simp);have f1:(w2.alloc (.cells #[.string .empty,.string .empty,.int .i64 0] 111)).frozen? ⟨w.heap.size,1,none⟩=false:=CW.frozen 1 (by simp);have z0:(w2.alloc (.cells #[.string .empty,.string .empty,.int .i64 0] 111)).cell? ⟨w.heap.size,0,none⟩=some (.bool false):=CW.ab (i:=0) rfl
    have z1:(w2.alloc (.cells #[.string .empty,.string .empty,.int .i64 0] 111)).cell? ⟨w.heap.size,1,none⟩=some (.slice none 0 0):=CW.ab (i:=1) rfl;have CX:=xh ((CW.bq 0 (.bool false)).bq 1 (.slice none 0 0))
    have OX:=xh ((((ag.ak (S:=[]) (ao OL.out (ae bT (.cells #[.string .empty,.string .empty,.int .i64 0] 111)))).setCell (p:=⟨w.heap.size,0,none⟩) (fun h=>absurd h (by simp)) (.bool false)).setCell (p:=⟨w.heap.size,1,none⟩) (fun h=>absurd h (by simp)) (.slice none 0 0)).cZ);have LA:=yO.out.lt;clear CW bT;go_wp2_with fail;exact bodyPost_ret (dV rfl rfl CX.out) rfl ⟨.inl ⟨HNO.out,rfl⟩,OX.out⟩
  ·obtain rfl:i=rest.length:=by omega
   rw [List.take_length] at S EO;have HE:=xh (show iV (r0::rest)=rest.map fun r=>ft ⟨r.toArray⟩ from rfl);have DS:=xh (show j9 (r0::rest)=true from by simp [j9,Lz.out]);rw [←HE.out] at S;obtain ⟨-,EN⟩:=aG.aw S;have KM:=xh (mS (w:=wr) true VA rest.length vc (iV (r0::rest)) EN (by omega))
   have HF:=xh (show (cM (iV (r0::rest)) true→fR (r0::rest))∧(fR (r0::rest)→cM (iV (r0::rest)) true) from ⟨fun hm=>⟨by rw [Lz.out]; simp,EO.out,by rw [DS.out]; exact hm⟩,fun hx=>by have:=hx.2.2; rw [DS.out] at this; exact this⟩);have d0:wr.cell? ⟨w1.heap.size,0,none⟩=some (.bool true):=C6.ab (i:=0) rfl;have d1:wr.cell? ⟨w1.heap.size,1,none⟩=some (.slice VA rest.length vc):=C6.ab (i:=1) rfl;have SL:=xh S;have CL:=xh C6;have yO:=xh C2
   have OL:=xh O;unfold aT at KM;clear S C6 C2 RS O EN;go_wp2_with fail;refine KM.out.mono ?_;rintro e' w2 ⟨⟨b,rfl,hb⟩,bT⟩;have CW:=yO.out.below bT yO.out.lt;have CN:=CL.out.below bT CL.out.lt;have f0:w2.frozen? ⟨w.heap.size,0,none⟩=false:=CW.frozen 0 (by simp);have f1:w2.frozen? ⟨w.heap.size,1,none⟩=false:=CW.frozen 1 (by simp);have z0:w2.cell? ⟨w.heap.size,0,none⟩=some (.bool false):=CW.ab (i:=0) rfl
   have z1:w2.cell? ⟨w.heap.size,1,none⟩=some (.slice none 0 0):=CW.ab (i:=1) rfl;have y0:w2.cell? ⟨w1.heap.size,0,none⟩=some (.bool true):=CN.ab (i:=0) rfl;have y1:w2.cell? ⟨w1.heap.size,1,none⟩=some (.slice VA rest.length vc):=CN.ab (i:=1) rfl;have LA:=yO.out.lt
   cases b
   ·have HNO:=xh (show ¬fR (r0::rest) from fun hx=>by have:=hb.2 (HF.out.2 hx); cases this);have CX:=xh ((CW.bq 0 (.bool false)).bq 1 (.slice none 0 0));have OX:=xh ((((ag.ak (S:=[]) (ao OL.out bT)).setCell (p:=⟨w.heap.size,0,none⟩) (fun h=>absurd h (by simp)) (.bool false)).setCell (p:=⟨w.heap.size,1,none⟩) (fun h=>absurd h (by simp)) (.slice none 0 0)).cZ);clear CW CN bT hb d0 d1;go_wp2_with fail
    exact bodyPost_ret (dV rfl rfl CX.out) rfl ⟨.inl ⟨HNO.out,rfl⟩,OX.out⟩
   ·have DT:=xh (HF.out.1 (hb.1 rfl));have CX:=xh ((CW.bq 0 (.bool true)).bq 1 (.slice VA rest.length vc));have OX:=xh ((((ag.ak (S:=[]) (ao OL.out bT)).setCell (p:=⟨w.heap.size,0,none⟩) (fun h=>absurd h (by simp)) (.bool true)).setCell (p:=⟨w.heap.size,1,none⟩) (fun h=>absurd h (by simp)) (.slice VA rest.length vc)).cZ)
    have SX:=xh ((SL.out.below bT).only (((ag.refl [w.heap.size] w2).setCell (p:=⟨w.heap.size,0,none⟩) (fun _=>by simp) (.bool true)).setCell (p:=⟨w.heap.size,1,none⟩) (fun _=>by simp) (.slice VA rest.length vc)) (fun x hx=>by simp; exact fun hxx=>hg2 (hxx▸hx)));clear CW CN bT hb d0 d1;go_wp2_with fail;exact bodyPost_ret (dV rfl rfl CX.out) rfl ⟨.inr (⟨DT.out,VA,rest.length,vc,by rw [DS.out]; rfl,SX.out,xh (fun x hx=>by have:=F.out x hx; omega)⟩),OX.out⟩
theorem vV (s:ByteArray) (w:World) (hs:s.size≤1000000) (hq:bw s.data.toList=0) (r0:List UInt8) (vS:r0=[2]) (lD:bX s.data.toList=[r0]):
  Calls Tryz.prog 122 #[.string s] w (ke ([r0]) w):=by
 have B0:=ax.new w 118 #[.bool false,.slice none 0 0];have O0:=ae (Below.refl w.heap.size w) (.cells #[.bool false,.slice none 0 0] 118);have KA:=xh (j8 s (w.alloc (.cells #[.bool false,.slice none 0 0] 118)) hs);unfold ke aT;have O0:=xh O0;have B0:=xh B0;have hS:=(dj _).1 hq;have hm:=jx hS;have Ha:=xh (iA hS);have hN:=bY s.data.toList;obtain ⟨N,ux⟩: ∃N,bh s.data.toList 0=N:=⟨_,rfl⟩;unfold jn at KA
 rw [hq,lD,ux] at KA;rw [lD,ux] at hN;rw [lD] at hm Ha;clear hS hq lD ux;go_enter Tryz.func122,Tryz.ntmps122;go_wp2_with fail;refine KA.out.mono ?_;rintro e w1 ⟨v,rfl,aM,fr,hv⟩;have S1:aG w1 9 1 v N (strs [r0]):=hv.elim (fun h=>h.2) (fun h=>absurd rfl h.1);have xc: ∀x∈ah v,w.heap.size+1≤x:=fun x hx=>by have:=fr x hx; rw [qJ] at this; exact this
 obtain ⟨V1,oF,rfl⟩:=aq S1;have O1:=xh (ao O0.out aM);have B1:=xh (B0.out.below aM B0.out.lt);have f0:w1.frozen? ⟨w.heap.size,0,none⟩=false:=B1.out.frozen 0 (by simp);have f1:w1.frozen? ⟨w.heap.size,1,none⟩=false:=B1.out.frozen 1 (by simp);have z0:w1.cell? ⟨w.heap.size,0,none⟩=some (.bool false):=B1.out.ab (i:=0) rfl;have z1:w1.cell? ⟨w.heap.size,1,none⟩=some (.slice none 0 0):=B1.out.ab (i:=1) rfl
 have BZ:=xh ((B1.out.bq 0 (.bool false)).bq 1 (.slice none 0 0));have OZ:=xh (((((ag.ak (S:=[]) O1.out).setCell (p:=⟨w.heap.size,0,none⟩) (fun h=>absurd h (by simp)) (.bool false)).setCell (p:=⟨w.heap.size,1,none⟩) (fun h=>absurd h (by simp)) (.slice none 0 0))).cZ);clear fr aM hv;obtain rfl:N=([]:List (List UInt8)).length+1:=by simpa using hN.symm
 obtain ⟨g,rfl,ck⟩:=iT S1 0 (by simp);have hgw:w.heap.size<g:=xc g (by simp [ah]);have hgl:g<w1.heap.size:=S1.lt g (by simp [ah]);have hwl1:=B1.out.lt;have Hb:w1.cell? ⟨g,0,none⟩=some (.string ⟨r0.toArray⟩):=ck;have S1:=xh S1;have Dj:([]:List (List UInt8)).length≤56:=Nat.le_of_succ_le_succ hm;have qC:([]:List (List UInt8)).length+1≤oF∧oF≤maxLen:=by
  obtain ⟨r,_,h1,_,h2⟩:=S1.out.oM;simp at h1;exact ⟨by first | omega | (simp; omega),h2⟩
 clear ck xc KA hN hm;obtain ⟨K0,yM⟩: ∃K0:ByteArray,(⟨r0.toArray⟩:ByteArray)=K0:=⟨_,rfl⟩;rw [yM] at Hb;have DR:K0.toList=r0:=by rw [bZ,←yM]
 clear yM;have hk:K0.toList=[2]:=by rw [DR]; exact vS
 have Lz:=xh vS;have k1:(K0.toList==[1])=false:=by rw [hk]; decide
 have k2:(K0.toList==[2])=true:=by rw [hk]; decide
 have k3: ¬K0.toList=[1]:=by rw [hk]; decide
 clear DR hk;have R0:=xh (show ax (w1.alloc (.cells #[.bool false,.slice none 0 0] 118)) w1.heap.size 118 #[.bool false,.slice none 0 0] from ax.new w1 _ _);have R2:=xh (B1.out.alloc (.cells #[.bool false,.slice none 0 0] 118));have RO:=xh (ao O1.out (ae (Below.refl _ _) (.cells #[.bool false,.slice none 0 0] 118)));have DS:=xh (show j9 [r0]=false from by simp [j9,Lz.out])
 have HM:=xh (show cM ([]:List E) false from fun i hi=>absurd hi (Nat.not_lt_zero _));have DT:=xh (show fR [r0] from ⟨by rw [Lz.out]; simp,by simp,by rw [DS.out]; exact HM.out⟩)
 by_cases lz:oF=1
 all_goals
  go_wp2_with fail;generalize hW6:(w1.alloc (.cells #[.bool false,.slice none 0 0] 118))=W6 at *;clear hW6 f0 f1 z0 z1 Hb;have KM:=xh (mS (w:=W6) false none 0 0 [] (show lk W6 none 0 [] from ⟨rfl,fun k e h=>by simp at h⟩) (by omega));unfold aT at KM
  go_loopw [46] (fun iv wr=>iv= .int .i64 0∧wr=W6) (fun _ _=>0)
  case atStart=>exact ⟨rfl,rfl⟩
  case round=>
   obtain ⟨rfl,rfl⟩:=hrel;have d0:wr.cell? ⟨w1.heap.size,0,none⟩=some (.bool false):=R0.out.ab (i:=0) rfl;have d1:wr.cell? ⟨w1.heap.size,1,none⟩=some (.slice none 0 0):=R0.out.ab (i:=1) rfl;go_wp2_with fail;refine KM.out.mono ?_;rintro e' w2 ⟨⟨b,rfl,hb⟩,bT⟩;obtain rfl:=hb.2 HM.out;have CW:=R2.out.below bT R2.out.lt;have CN:=R0.out.below bT R0.out.lt;have f0:w2.frozen? ⟨w.heap.size,0,none⟩=false:=CW.frozen 0 (by simp)
   have f1:w2.frozen? ⟨w.heap.size,1,none⟩=false:=CW.frozen 1 (by simp);have z0:w2.cell? ⟨w.heap.size,0,none⟩=some (.bool false):=CW.ab (i:=0) rfl;have z1:w2.cell? ⟨w.heap.size,1,none⟩=some (.slice none 0 0):=CW.ab (i:=1) rfl;have y0:w2.cell? ⟨w1.heap.size,0,none⟩=some (.bool false):=CN.ab (i:=0) rfl;have y1:w2.cell? ⟨w1.heap.size,1,none⟩=some (.slice none 0 0):=CN.ab (i:=1) rfl;have LA:=R2.out.lt;have CX:=xh ((CW.bq 0 (.bool false)).bq 1 (.slice none 0 0))
   have OX:=xh ((((ag.ak (S:=[]) (ao RO.out bT)).setCell (p:=⟨w.heap.size,0,none⟩) (fun h=>absurd h (by simp)) (.bool false)).setCell (p:=⟨w.heap.size,1,none⟩) (fun h=>absurd h (by simp)) (.slice none 0 0)).cZ);clear CW CN bT hb d0 d1;go_wp2_with fail;exact bodyPost_ret (dV rfl rfl CX.out) rfl ⟨.inr ⟨DT.out,none,0,0,by rw [DS.out]; rfl,aG.nil _ _ _,xh (fun x hx=>by simp [ah] at hx)⟩,OX.out⟩
theorem uy (s:ByteArray) (w:World) (hs:s.size≤1000000) (hq:bw s.data.toList=0) (r0:List UInt8) (rest:List (List UInt8)) (vS:r0=[2]) (eg:rest≠[]) (lD:bX s.data.toList=r0::rest):
  Calls Tryz.prog 122 #[.string s] w (ke (r0::rest) w):=by
 have B0:=ax.new w 118 #[.bool false,.slice none 0 0];have O0:=ae (Below.refl w.heap.size w) (.cells #[.bool false,.slice none 0 0] 118);have KA:=xh (j8 s (w.alloc (.cells #[.bool false,.slice none 0 0] 118)) hs);unfold ke aT;have O0:=xh O0;have B0:=xh B0;have hS:=(dj _).1 hq;have hm:=jx hS;have Ha:=xh (iA hS);have hN:=bY s.data.toList;obtain ⟨N,ux⟩: ∃N,bh s.data.toList 0=N:=⟨_,rfl⟩;unfold jn at KA
 rw [hq,lD,ux] at KA;rw [lD,ux] at hN;rw [lD] at hm Ha;clear hS hq lD ux;go_enter Tryz.func122,Tryz.ntmps122;go_wp2_with fail;refine KA.out.mono ?_;rintro e w1 ⟨v,rfl,aM,fr,hv⟩;have S1:aG w1 9 1 v N (strs (r0::rest)):=hv.elim (fun h=>h.2) (fun h=>absurd rfl h.1);have xc: ∀x∈ah v,w.heap.size+1≤x:=fun x hx=>by have:=fr x hx; rw [qJ] at this; exact this
 obtain ⟨V1,oF,rfl⟩:=aq S1;have O1:=xh (ao O0.out aM);have B1:=xh (B0.out.below aM B0.out.lt);have f0:w1.frozen? ⟨w.heap.size,0,none⟩=false:=B1.out.frozen 0 (by simp);have f1:w1.frozen? ⟨w.heap.size,1,none⟩=false:=B1.out.frozen 1 (by simp);have z0:w1.cell? ⟨w.heap.size,0,none⟩=some (.bool false):=B1.out.ab (i:=0) rfl;have z1:w1.cell? ⟨w.heap.size,1,none⟩=some (.slice none 0 0):=B1.out.ab (i:=1) rfl
 have BZ:=xh ((B1.out.bq 0 (.bool false)).bq 1 (.slice none 0 0));have OZ:=xh (((((ag.ak (S:=[]) O1.out).setCell (p:=⟨w.heap.size,0,none⟩) (fun h=>absurd h (by simp)) (.bool false)).setCell (p:=⟨w.heap.size,1,none⟩) (fun h=>absurd h (by simp)) (.slice none 0 0))).cZ);clear fr aM hv;obtain rfl:N=rest.length+1:=by simpa using hN.symm
 obtain ⟨g,rfl,ck⟩:=iT S1 0 (by simp);have hgw:w.heap.size<g:=xc g (by simp [ah]);have hgl:g<w1.heap.size:=S1.lt g (by simp [ah]);have hwl1:=B1.out.lt;have Hb:w1.cell? ⟨g,0,none⟩=some (.string ⟨r0.toArray⟩):=ck;have S1:=xh S1;have Dj:rest.length≤56:=Nat.le_of_succ_le_succ hm;have qC:rest.length+1≤oF∧oF≤maxLen:=by
  obtain ⟨r,_,h1,_,h2⟩:=S1.out.oM;simp at h1;exact ⟨by first | omega | (simp; omega),h2⟩
 clear ck xc KA hN hm;obtain ⟨K0,yM⟩: ∃K0:ByteArray,(⟨r0.toArray⟩:ByteArray)=K0:=⟨_,rfl⟩;rw [yM] at Hb;have DR:K0.toList=r0:=by rw [bZ,←yM]
 clear yM;have hk:K0.toList=[2]:=by rw [DR]; exact vS
 have Lz:=xh vS;have k1:(K0.toList==[1])=false:=by rw [hk]; decide
 have k2:(K0.toList==[2])=true:=by rw [hk]; decide
 have k3: ¬K0.toList=[1]:=by rw [hk]; decide
 clear DR hk;have n1: ¬(rest.length:Int)+1=0:=by omega
 have n2:((rest.length:Int)+1==0)=false:=by simpa using n1
 have lz: ¬oF=1:=fun h=>by
  have:0<rest.length:=List.length_pos_iff.2 eg;omega
 have R0:=xh (show ax (w1.alloc (.cells #[.bool false,.slice none 0 0] 118)) w1.heap.size 118 #[.bool false,.slice none 0 0] from ax.new w1 _ _);have R2:=xh (B1.out.alloc (.cells #[.bool false,.slice none 0 0] 118));have RS:=xh (S1.out.alloc (.cells #[.bool false,.slice none 0 0] 118));have RO:=xh (ao O1.out (ae (Below.refl _ _) (.cells #[.bool false,.slice none 0 0] 118)));go_wp2_with fail
 generalize hW6:(w1.alloc (.cells #[.bool false,.slice none 0 0] 118))=W6 at *;clear hW6 f0 f1 z0 z1 Hb
 go_loopw [46] (fun iv wr=> ∃(i:Nat) (v':Value),i≤rest.length∧iv= .int .i64 i∧ax wr w1.heap.size 118 #[.bool false,v']∧ax wr w.heap.size 118 #[.bool false,.slice none 0 0]∧aG wr 111 3 v' i (aw ((rest.take i).map fun r=>ft ⟨r.toArray⟩))∧aG wr 9 1 (.slice (some ⟨g,0,none⟩) (rest.length+1) oF) (rest.length+1) (strs (r0::rest))∧Hid (∀r∈rest.take i,fE ⟨r.toArray⟩)∧Below w.heap.size w wr∧Hid (∀x∈ah v',w1.heap.size+1≤x)) (fun iv _=>rest.length-(intOf iv).toNat)
 case atStart=>exact ⟨0,_,Nat.zero_le _,rfl,R0.out,R2.out,aG.nil _ _ _,RS.out,xh (by simp),RO.out,xh (fun x hx=>by simp [ah] at hx)⟩
 case round=>
  obtain ⟨i,v',hi,rfl,C6,C2,S,RS,EO,O,F⟩:=hrel;obtain ⟨VA,vc,rfl⟩:=aq S;have hltr:=C6.lt;have hg6:w1.heap.size∉ah (.slice VA i vc):=fun hx=>by have:=F.out _ hx; omega
  have hg2:w.heap.size∉ah (.slice VA i vc):=fun hx=>by have:=F.out _ hx; omega
  have G5:g∉ah (.slice VA i vc):=fun hx=>by have:=F.out _ hx; omega
  by_cases h:i<rest.length
  ·obtain ⟨g',hgx,ck⟩:=iT RS (i+1) (by simp; omega);simp only [Option.some.injEq,Addr.mk.injEq,and_true] at hgx;subst hgx;have hri:(r0::rest)[i+1]'(by simp; omega)=rest[i]:=List.getElem_cons_succ ..;rw [hri] at ck;have lK:rest[i].length≤232:=Ha.out _ (List.mem_cons_of_mem _ (List.getElem_mem h));have HT:=xh (List.take_succ_eq_append_getElem h);obtain ⟨T,hT⟩: ∃T:ByteArray,(⟨rest[i].toArray⟩:ByteArray)=T:=⟨_,rfl⟩;have hTs:T.size≤232:=by rw [←hT,Sl.size_of_list]; exact lK
   rw [hT] at ck;have HTT:=xh hT;have ck2:wr.cell? ((⟨g,1,none⟩:Addr).add i)=some (.string T):=by rw [eX,Nat.add_comm]; exact ck
   have hiI:(i:Int)<(rest.length:Int):=by omega
   have ck3:wr.cell? ⟨g,1+i,none⟩=some (.string T):=by rw [Nat.add_comm]; exact ck
   clear hT hri lK
   by_cases dS:fE T
   ·have KE:=xh (fun w=>xg w T dS (by omega));have BV:=xh dS;obtain ⟨e,he⟩: ∃e,ft T=e:=⟨_,rfl⟩;rw [he] at KE;have HE:=xh he;have SL:=xh S;have CL:=xh C6;have yO:=xh C2;have RL:=xh RS;have OL:=xh O;unfold E.agg at KE;clear dS he S C6 C2 RS O;go_wp2_with fail;refine (KE.out _).mono ?_;rintro e' w2 ⟨rfl,bT⟩
    obtain ⟨v2,w3,ea,S3,ow,f3⟩:=n8 (P:=Tryz.prog) ((SL.out.below bT).alloc (.cells #[.string e.key,.string e.val,.int .i64 e.aH] 111)) 108 108 (.agg #[.string .empty,.string .empty,.int .i64 0]) 40 Tryz.underlying108 (by kernel_rfl) rfl e (by unfold maxLen; omega) (by omega);rw [qJ] at ea;obtain ⟨V2,fu,rfl⟩:=aq S3;have EA:=xh ea;have O2:=xh ((ag.ak (S:=ah (.slice VA i vc)) bT).alloc (.cells #[.string e.key,.string e.val,.int .i64 e.aH] 111))
    have OW:=O2.out.trans ow;have CW:=((CL.out.below bT CL.out.lt).alloc (.cells #[.string e.key,.string e.val,.int .i64 e.aH] 111)).only ow hg6;have c61:((w2.alloc (.cells #[.string e.key,.string e.val,.int .i64 e.aH] 111))).cell? ⟨w1.heap.size,1,none⟩=some (.slice VA i vc):=((CL.out.below bT CL.out.lt).alloc (.cells #[.string e.key,.string e.val,.int .i64 e.aH] 111)).ab (i:=1) rfl;have fz:w3.frozen? ⟨w1.heap.size,1,none⟩=false:=CW.frozen 1 (by simp)
    have cz:w3.cell? ⟨w1.heap.size,1,none⟩=some (.slice VA i vc):=CW.ab (i:=1) rfl;have hsz2:wr.heap.size≤w2.heap.size:=bT.size;have OX:=OW.mono (S':=w1.heap.size::ah (.slice VA i vc)) (fun x hx _=>List.mem_cons_of_mem _ hx) |>.setCell (p:=⟨w1.heap.size,1,none⟩) (fun _=>by simp) (.slice V2 (i+1) fu);have CX:=xh (CW.bq 1 (.slice V2 (i+1) fu));have C2X:=xh (yO.out.only OX (by simp; exact ⟨by omega,hg2⟩))
    have RX:=xh (RL.out.only OX (fun x hx=>by simp [ah] at hx; subst hx; simp; exact ⟨by omega,G5⟩));have nz: ∀x∈ah (.slice V2 (i+1) fu),w1.heap.size+1≤x:=fun x hx=>(f3 x hx).elim (F.out x) (fun h=>by rw [qJ] at h; omega);have FX:=xh nz;have SX:=xh (S3.only ((ag.refl [w1.heap.size] w3).setCell (p:=⟨w1.heap.size,1,none⟩) (fun _=>by simp) (.slice V2 (i+1) fu)) (fun x hx=>by have:=nz x hx; simp; omega))
    have OB:=xh (OL.out.trans (OX.ay OL.out.size (fun x hx=>by
     rcases List.mem_cons.1 hx with rfl | hx
     ·omega
     ·have:=F.out x hx; omega)))
    have HSX:=xh (show aw ((rest.take (i+1)).map fun r=>ft ⟨r.toArray⟩)=aw ((rest.take i).map fun r=>ft ⟨r.toArray⟩)++e.cells from by
     rw [HT.out,List.map_append,eE,List.map_cons,HTT.out,HE.out]; simp [aw])
    have EX:=xh (show ∀r∈rest.take (i+1),fE ⟨r.toArray⟩ from fun r hr=>by
     rw [HT.out] at hr
     rcases List.mem_append.1 hr with hr | hr
     ·exact EO.out r hr
     ·simp only [List.mem_singleton] at hr;rw [hr,HTT.out]; exact BV.out)
    clear ea S3 ow f3 OW CW OX nz bT;go_wp2_with fail;rw [EA.out];go_wp2_with fail;go_roundw
    case rel=>exact ⟨i+1,_,by omega,by go_num,CX.out,C2X.out,by rw [HSX.out]; exact SX.out,RX.out,EX,OB.out,FX⟩
    case measure=>simp [intOf]; omega
   ·have KE:=xh (fun w=>AE w T dS);have BV:=xh dS;have HNO:=xh (show ¬fR (r0::rest) from fun hx=>dS (by rw [←HTT.out]; exact hx.2.1 _ (by rw [List.tail_cons]; exact List.getElem_mem h)));have yO:=xh C2;have OL:=xh O;unfold E.agg E.zero at KE;clear dS S C6 C2 RS O;go_wp2_with fail;refine (KE.out _).mono ?_;rintro e' w2 ⟨rfl,bT⟩;have CW:=(yO.out.below bT yO.out.lt).alloc (.cells #[.string .empty,.string .empty,.int .i64 0] 111)
    have f0:(w2.alloc (.cells #[.string .empty,.string .empty,.int .i64 0] 111)).frozen? ⟨w.heap.size,0,none⟩=false:=CW.frozen 0 (by simp);have f1:(w2.alloc (.cells #[.string .empty,.string .empty,.int .i64 0] 111)).frozen? ⟨w.heap.size,1,none⟩=false:=CW.frozen 1 (by simp);have z0:(w2.alloc (.cells #[.string .empty,.string .empty,.int .i64 0] 111)).cell? ⟨w.heap.size,0,none⟩=some (.bool false):=CW.ab (i:=0) rfl
    have z1:(w2.alloc (.cells #[.string .empty,.string .empty,.int .i64 0] 111)).cell? ⟨w.heap.size,1,none⟩=some (.slice none 0 0):=CW.ab (i:=1) rfl;have CX:=xh ((CW.bq 0 (.bool false)).bq 1 (.slice none 0 0))
    have OX:=xh ((((ag.ak (S:=[]) (ao OL.out (ae bT (.cells #[.string .empty,.string .empty,.int .i64 0] 111)))).setCell (p:=⟨w.heap.size,0,none⟩) (fun h=>absurd h (by simp)) (.bool false)).setCell (p:=⟨w.heap.size,1,none⟩) (fun h=>absurd h (by simp)) (.slice none 0 0)).cZ);have LA:=yO.out.lt;clear CW bT;go_wp2_with fail;exact bodyPost_ret (dV rfl rfl CX.out) rfl ⟨.inl ⟨HNO.out,rfl⟩,OX.out⟩
  ·obtain rfl:i=rest.length:=by omega
   rw [List.take_length] at S EO;have HE:=xh (show iV (r0::rest)=rest.map fun r=>ft ⟨r.toArray⟩ from rfl);have DS:=xh (show j9 (r0::rest)=false from by simp [j9,Lz.out]);rw [←HE.out] at S;obtain ⟨-,EN⟩:=aG.aw S;have KM:=xh (mS (w:=wr) false VA rest.length vc (iV (r0::rest)) EN (by omega))
   have HF:=xh (show (cM (iV (r0::rest)) false→fR (r0::rest))∧(fR (r0::rest)→cM (iV (r0::rest)) false) from ⟨fun hm=>⟨by rw [Lz.out]; simp,EO.out,by rw [DS.out]; exact hm⟩,fun hx=>by have:=hx.2.2; rw [DS.out] at this; exact this⟩);have d0:wr.cell? ⟨w1.heap.size,0,none⟩=some (.bool false):=C6.ab (i:=0) rfl;have d1:wr.cell? ⟨w1.heap.size,1,none⟩=some (.slice VA rest.length vc):=C6.ab (i:=1) rfl;have SL:=xh S;have CL:=xh C6;have yO:=xh C2
   have OL:=xh O;unfold aT at KM;clear S C6 C2 RS O EN;go_wp2_with fail;refine KM.out.mono ?_;rintro e' w2 ⟨⟨b,rfl,hb⟩,bT⟩;have CW:=yO.out.below bT yO.out.lt;have CN:=CL.out.below bT CL.out.lt;have f0:w2.frozen? ⟨w.heap.size,0,none⟩=false:=CW.frozen 0 (by simp);have f1:w2.frozen? ⟨w.heap.size,1,none⟩=false:=CW.frozen 1 (by simp);have z0:w2.cell? ⟨w.heap.size,0,none⟩=some (.bool false):=CW.ab (i:=0) rfl
   have z1:w2.cell? ⟨w.heap.size,1,none⟩=some (.slice none 0 0):=CW.ab (i:=1) rfl;have y0:w2.cell? ⟨w1.heap.size,0,none⟩=some (.bool false):=CN.ab (i:=0) rfl;have y1:w2.cell? ⟨w1.heap.size,1,none⟩=some (.slice VA rest.length vc):=CN.ab (i:=1) rfl;have LA:=yO.out.lt
   cases b
   ·have HNO:=xh (show ¬fR (r0::rest) from fun hx=>by have:=hb.2 (HF.out.2 hx); cases this);have CX:=xh ((CW.bq 0 (.bool false)).bq 1 (.slice none 0 0));have OX:=xh ((((ag.ak (S:=[]) (ao OL.out bT)).setCell (p:=⟨w.heap.size,0,none⟩) (fun h=>absurd h (by simp)) (.bool false)).setCell (p:=⟨w.heap.size,1,none⟩) (fun h=>absurd h (by simp)) (.slice none 0 0)).cZ);clear CW CN bT hb d0 d1;go_wp2_with fail
    exact bodyPost_ret (dV rfl rfl CX.out) rfl ⟨.inl ⟨HNO.out,rfl⟩,OX.out⟩
   ·have DT:=xh (HF.out.1 (hb.1 rfl));have CX:=xh ((CW.bq 0 (.bool false)).bq 1 (.slice VA rest.length vc));have OX:=xh ((((ag.ak (S:=[]) (ao OL.out bT)).setCell (p:=⟨w.heap.size,0,none⟩) (fun h=>absurd h (by simp)) (.bool false)).setCell (p:=⟨w.heap.size,1,none⟩) (fun h=>absurd h (by simp)) (.slice VA rest.length vc)).cZ)
    have SX:=xh ((SL.out.below bT).only (((ag.refl [w.heap.size] w2).setCell (p:=⟨w.heap.size,0,none⟩) (fun _=>by simp) (.bool false)).setCell (p:=⟨w.heap.size,1,none⟩) (fun _=>by simp) (.slice VA rest.length vc)) (fun x hx=>by simp; exact fun hxx=>hg2 (hxx▸hx)));clear CW CN bT hb d0 d1;go_wp2_with fail;exact bodyPost_ret (dV rfl rfl CX.out) rfl ⟨.inr (⟨DT.out,VA,rest.length,vc,by rw [DS.out]; rfl,SX.out,xh (fun x hx=>by have:=F.out x hx; omega)⟩),OX.out⟩
def yP (s:ByteArray) (w:World) (e:Ending) (w':World):Prop:=
 (bw s.data.toList≠0∧e= .returned (.tuple #[aT false none 0 0,.int .i64 (bw s.data.toList)])∧Below w.heap.size w w')∨(bw s.data.toList=0∧ke (bX s.data.toList) w e w')
theorem got_any (s:ByteArray) (w:World) (hs:s.size≤1000000):
  Calls Tryz.prog 122 #[.string s] w (yP s w):=by
 by_cases hq:bw s.data.toList=0
 ·have lift: ∀{rs},bX s.data.toList=rs→Calls Tryz.prog 122 #[.string s] w (ke rs w)→Calls Tryz.prog 122 #[.string s] w (yP s w):=fun h k=>k.mono fun e w' h2=> .inr ⟨hq,by rw [h]; exact h2⟩
  match lD:bX s.data.toList with
  | []=>exact lift lD (got_nil s w hs hq lD)
  | r0::rest=>
   refine lift lD ?_
   by_cases h1:r0=[1]
   ·by_cases eg:rest=[]
    ·subst eg; exact yN s w hs hq r0 h1 lD
    ·exact vU s w hs hq r0 rest h1 eg lD
   ·by_cases h2:r0=[2]
    ·by_cases eg:rest=[]
     ·subst eg; exact vV s w hs hq r0 h2 lD
     ·exact uy s w hs hq r0 rest h2 eg lD
    ·exact got_odd s w hs hq r0 rest h1 h2 lD
 ·have HQ:=xh hq;have B0:=ax.new w 118 #[.bool false,.slice none 0 0];have O0:=ae (Below.refl w.heap.size w) (.cells #[.bool false,.slice none 0 0] 118);have KA:=xh (j8 s (w.alloc (.cells #[.bool false,.slice none 0 0] 118)) hs);unfold yP aT;have O0:=xh O0;have B0:=xh B0;unfold jn at KA;generalize bw s.data.toList=q at *;go_enter Tryz.func122,Tryz.ntmps122;go_wp2_with fail;refine KA.out.mono ?_;rintro e w1 ⟨v,rfl,aM,fr,hv⟩
  rcases hv with ⟨h0,-⟩ | ⟨-,rfl⟩
  ·exact absurd h0 hq
  have O1:=xh (ao O0.out aM);have B1:=xh (B0.out.below aM B0.out.lt);have f0:w1.frozen? ⟨w.heap.size,0,none⟩=false:=B1.out.frozen 0 (by simp);have f1:w1.frozen? ⟨w.heap.size,1,none⟩=false:=B1.out.frozen 1 (by simp);have z0:w1.cell? ⟨w.heap.size,0,none⟩=some (.bool false):=B1.out.ab (i:=0) rfl;have z1:w1.cell? ⟨w.heap.size,1,none⟩=some (.slice none 0 0):=B1.out.ab (i:=1) rfl;have BZ:=xh ((B1.out.bq 0 (.bool false)).bq 1 (.slice none 0 0))
  have OZ:=xh (((((ag.ak (S:=[]) O1.out).setCell (p:=⟨w.heap.size,0,none⟩) (fun h=>absurd h (by simp)) (.bool false)).setCell (p:=⟨w.heap.size,1,none⟩) (fun h=>absurd h (by simp)) (.slice none 0 0))).cZ);have q2:(q==0)=false:=by simpa using hq
  clear fr aM KA;go_wp2_with fail;exact bodyPost_ret (dV rfl rfl BZ.out) rfl (.inl ⟨HQ.out,rfl,OZ.out⟩)
end Go.Proofs.YtmonobkginiajaaGreat.Nd
namespace Go.Proofs.YtmonobkginiajaaGreat.Nd
open Go.RowKit Sl
theorem mU (e:E):(pI e).data.toList=mc e:=by simp [pI]
theorem Hc (e:E):(mc e).drop 1=e.key.data.toList++(dD (e.aH+1).toNat++e.val.data.toList):=rfl
theorem uz (e:E) (h:e.key.size≤32):jQ (pI e)=e.key.size:=by
 unfold jQ;rw [mU];show (UInt8.ofNat e.key.size).toNat=e.key.size;rw [UInt8.toNat_ofNat'];omega
theorem xk (e:E):(pI e).size=3+e.key.size+e.val.size:=by
 unfold pI;rw [Sl.size_of_list,me]
theorem AG (e:E) (h:e.key.size≤32):fE (pI e):=by
 unfold fE;rw [uz e h,xk]; omega
theorem keyL (e:E):e.key.data.toList.length=e.key.size:=by simp
theorem DU (e:E) (h:e.key.size≤32) (h1: -1≤e.aH) (h2:e.aH≤511):ft (pI e)=e:=by
 obtain ⟨m,hm⟩:=Int.eq_ofNat_of_zero_le (show 0≤e.aH+1 by omega);have hk:=keyL e;have hd:=Hc e;have d2:(mc e).drop (1+e.key.size)=dD (e.aH+1).toNat++e.val.data.toList:=by
  rw [←List.drop_drop,hd,List.drop_append_of_le_length (by omega),←hk,List.drop_length,List.nil_append]
 have d3:(mc e).drop (3+e.key.size)=e.val.data.toList:=by
  rw [show 3+e.key.size=(1+e.key.size)+2 by omega,←List.drop_drop,d2]; rfl
 unfold ft;rw [uz e h];have a1:(pI e).extract 1 (1+e.key.size)=e.key:=by
  rw [lj,mU,hd,List.take_append_of_le_length (by omega),←hk,List.take_length]
 have a2:(pI e).extract (3+e.key.size) (pI e).size=e.val:=by
  rw [xk,lj,mU,d3,List.take_of_length_le (by simp)]
 have a3:bh (pI e).data.toList (1+e.key.size)=m:=by
  rw [mU];have g0:(mc e).getD (1+e.key.size) 0=UInt8.ofNat (m / 256):=by
   have:=congrArg (fun l=>l.getD 0 0) d2;simp only [List.getD_eq_getElem?_getD,List.getElem?_drop,Nat.add_zero] at this;rw [List.getD_eq_getElem?_getD,this,hm]; rfl
  have g1:(mc e).getD (1+e.key.size+1) 0=UInt8.ofNat m:=by
   have:=congrArg (fun l=>l.getD 1 0) d2;simp only [List.getD_eq_getElem?_getD,List.getElem?_drop] at this;rw [List.getD_eq_getElem?_getD,this,hm]; rfl
  unfold bh;rw [g0,g1,UInt8.toNat_ofNat',UInt8.toNat_ofNat'];omega
 rw [a1,a2,a3];obtain ⟨k,v,f⟩:=e;dsimp only at *;rw [show ((m:Nat):Int)-1=f by omega]
theorem uA {l:List E} {leaf:Bool} (hm:cM l leaf) (e:E) (he:e∈l):e.key.size≤32∧e.val.size≤40∧ -1≤e.aH∧e.aH≤511:=by
 obtain ⟨i,hi,rfl⟩:=List.getElem_of_mem he;have h2:=(uv l[i] leaf).1 (hm i hi l[i] (List.getElem?_eq_getElem hi)).1;exact ⟨h2.1,h2.2.1,h2.2.2.1,h2.2.2.2.1⟩
theorem uB {l:List E} {leaf:Bool} (hm:cM l leaf):iV (fF leaf l)=l:=by
 unfold iV fF;rw [List.tail_cons,List.map_map];have:l.map ((fun r=>ft ⟨r.toArray⟩) ∘ mc)=l.map id:=by
  apply List.map_congr_left;intro e he;obtain ⟨b1,b2,b3,b4⟩:=uA hm e he;exact DU e b1 b3 b4
 rw [this,List.map_id]
theorem uC (leaf:Bool) (l:List E):j9 (fF leaf l)=leaf:=by
 unfold j9 fF xj
 cases leaf<;>simp
theorem AH {l:List E} {leaf:Bool} (hm:cM l leaf):fR (fF leaf l):=by
 refine ⟨?_,?_,?_⟩
 ·unfold fF xj
  cases leaf<;>simp
 ·intro r hr;unfold fF at hr;rw [List.tail_cons] at hr;obtain ⟨e,he,rfl⟩:=List.mem_map.1 hr;exact AG e (uA hm e he).1
 ·rw [uB hm,uC]; exact hm
def l0:List E:=[⟨⟨#[97]⟩,⟨#[120]⟩,-1⟩,⟨⟨#[99]⟩,⟨#[]⟩,7⟩]
end Go.Proofs.YtmonobkginiajaaGreat.Nd
