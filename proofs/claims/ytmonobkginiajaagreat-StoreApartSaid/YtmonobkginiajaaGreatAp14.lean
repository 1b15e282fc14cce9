/- packed. -/
import Derived.Test.YtmonobkginiajaaGreatAp13
set_option linter.all false
set_option maxRecDepth 100000
set_option maxHeartbeats 8000000
namespace Go.Proofs.YtmonobkginiajaaGreat
open Go.Proofs.Tryz
namespace Sh
open Go.RowKit Pk Dk Pg
attribute [local go_sem ↓] Go.wp_at_zero Go.wp_at_succ bq
variable{w:World}{v:Value}{n mb c:Nat}{l:List PR}{A V:Option Addr}
theorem qg{l:List Value}(S:aK w 42 2 v n l)(B:Option Addr)(m c:Nat)(lx:List Value)(hl:lx.length=m*2)
 (hs:m=0\/∃a,B=some a/\∀j u,lx[j]?=some u->w.cell? (a.add j)=some u)(h1:∀u∈lx,u.oneCell'=true)(hn:n+m<=4000000):
  ∃v' w',df prog 30 30 w v (.slice B m c)= .ok v' w'/\aK w' 42 2 v' (n+m) (l++lx)/\ag (ah v) w w'/\(∀g∈ah v',g∈ah v\/w.heap.size<=g):=by
 obtain⟨i0,hi,ke,iX,jF⟩:=info_parts zZ;have ht:prog.underlying 30=some (.slice 42):=underlying30
 cases B with
 |some a=>
  have Ff:∀j u,lx[j]?=some u->w.cell? (a.add j)=some u:=by
   rcases hs with rfl|⟨a',e,h⟩
   .intro j u hj;have:lx=[]:=nW (by omega);rw[this]at hj;simp at hj
   .injection e with e;subst e;exact h
  exact di (P:=prog) S 30 30 i0 _ 32 ht hi ke iX jF rfl (by omega) a m c lx hl Ff h1 (by unfold maxLen;omega) (by omega)
 |none=>
  have hm:m=0:=hs.elim id λ⟨a,e,_⟩=>by cases e
  subst hm;have hlx:lx=[]:=nW (by omega);subst hlx;refine⟨v,w,?_,by rw[jh];exact S,ag.refl _ _,λx hx=> .inl hx⟩;unfold df
  rcases S.2 with⟨rfl,h0⟩|⟨g,cap,rest,rfl,BB,hc,hm⟩
  .simp[Builtin.append_,run_underlying ht,sizeOf,typeInfo,hi,Builtin.lenOf,Builtin.firstCells]
  .have hl:=S.1;have Ic:n<=cap:=by omega
   simp[Builtin.append_,run_underlying ht,sizeOf,typeInfo,hi,Builtin.lenOf,Builtin.firstCells,Ic,storeCells]
theorem Mp.len(h:Mp w mb (.slice A n c) l):l.length=n:=by
 obtain⟨A',c',e⟩:=ao h.s;injection e with _ e _
 exact e.symm
theorem xS(l:List PR):∀u∈iu l,u.oneCell'=true:=λu hu=>by
 unfold iu at hu;obtain⟨x,_,hx⟩:=lq.1 hu;simp only[ar,gC,or_false]at hx
 rcases hx with rfl|rfl<;>rfl
theorem Ho(l:List PR)(i:Nat):iu (l.take i)=(iu l).take (i*2):=by
 induction l generalizing i with
 |nil=>simp[iu]
 |cons x l ih=>
  cases i with
  |zero=>simp[iu]
  |succ i=>
   have:=ih i;unfold iu at this ⊢;rw[mJ,gS,gS,this,show(i+1)*2=i*2+1+1 by omega];rfl
theorem Hp(l:List PR)(i:Nat):iu (l.drop i)=(iu l).drop (i*2):=by
 induction l generalizing i with
 |nil=>simp[iu]
 |cons x l ih=>
  cases i with
  |zero=>simp
  |succ i=>
   have:=ih i;unfold iu at this ⊢;rw[xW,gS,this,show(i+1)*2=i*2+1+1 by omega];rfl
def ue(l:List PR)(key value:ByteArray):List PR:=if 32<key.size\/1024<value.size then l else l.take (oP l key)++(key,value)::l.drop (if rK l key=true then oP l key+1 else oP l key)
def Am(l:List PR)(key:ByteArray):List PR:=if rK l key=true then l.take (oP l key)++l.drop (oP l key+1)else l
theorem Ao(h:Mp w mb v l)(key:ByteArray):
  Calls prog 55 #[.pointer (some ⟨mb,0,none⟩),.string key] w λe w'=>e=.returned (.int .i64 (if rK l key=true then 0 else 9))/\∃v',Mp w' mb v' (Am l key)/\ag [mb] w w':=by
 have KA:=xh (EV h key);unfold Am
 cases hb:rK l key with
 |false=>
  rw[hb]at KA;rw[if_neg (by simp),if_neg (by simp)];have HM:=xh h;clear h hb;go_enter func55,ntmps55;go_wp2_with fail;refine KA.o.mono ?_;rintro e w1 ⟨rfl,aJ⟩;have O1:=xh aJ;clear aJ;go_wp2_with fail;go_ret;exact aC ⟨v,HM.o.below O1.o,.ai O1.o⟩
 |true=>
  rw[hb]at KA;rw[if_pos rfl,if_pos rfl];obtain⟨x,hx⟩:∃x,l[oP l key]?=some x:=by
   cases hx:l[oP l key]? with
   |none=>unfold rK at hb;rw[hx]at hb;cases hb
   |some x=>exact⟨x,rfl⟩
  obtain⟨k,hk⟩:∃k,oP l key=k:=⟨_,rfl⟩;rw[hk]at KA hx ⊢;have dV:=(aX.1 hx).1;have hn:=h.n;obtain⟨g,c,hv,_,_⟩:=h.at k x hx;subst hv;have HM:=xh h;obtain⟨rest,BB,hc,_,uj⟩:=h.s.rp;rw[dH]at hc;obtain⟨ln,mC⟩:∃ln,l.length=ln:=⟨_,rfl⟩;have DI:=xh mC;rw[mC]at dV hn hc;have Og:ln<=c:=by omega
  have s1:k<=c:=by omega
  have s2:(k:Int)<=(c:Int):=by omega
  have s3:(k:Int)+1<=(ln:Int):=by omega
  have s4:(ln:Int)<=(c:Int):=by omega
  have s5:(k:Int)+1<=(c:Int):=by omega
  have s6:(0:Int)<=(k:Int)+1:=by omega
  have s7:((k:Int)+1).toNat=k+1:=by omega
  have s8:IntKind.i64.wrap ((k:Int)+1)=(k:Int)+1:=IntWalk.i64_in _ (by omega);have s9:k+1<=ln:=dV;have s10:k+1<=c:=by omega
  rw[mC]at HM;have HHL:=xh dV;have HHC:=xh Og;have HHN:=xh hn;have BB:=xh BB
  replace hc:=xh hc
  have T1:=xh (show(l.take k).length=k from by rw[bK,mC];omega);have T2:=xh (show(l.drop (k+1)).length=ln-(k+1)from by rw[de,mC]);clear h hb hx hk mC;obtain⟨b9,hb9⟩:∃b:Prop,b=(c=k+1):=⟨_,rfl⟩;go_enter func55,ntmps55;go_wp2_with fail;refine KA.o.mono ?_;rintro e w1 ⟨rfl,aJ⟩;have O1:=xh aJ;have x0:=(HM.o.below aJ).b.ab (i:=0) rfl;clear aJ;go_wp2_with fail
  have HR:=xh (show ∃B':Option Addr,∃m',(if c=k+1 then some (⟨g,0,none⟩:Addr)else some ⟨g,(k+1)*2,none⟩)=B'/\True from⟨_,0,rfl,trivial⟩);refine oQ (S:=λW=>W.cell? ⟨mb,0,none⟩=some (.slice (some ⟨g,0,none⟩) ln c)) 19 (by kernel_rfl) (x0) (λaq=>?_);refine cV [(0,15),(2,17),(3,18),(4,19),(5,20),(6,21),(7,22),(9,24),(10,25),(11,26),(12,27),(13,28),(14,29),(15,30)] ?_
  iterate 14 refine fW ?_
  refine bx 1 λK hK=>?_;go_simp;have hh:=O1.o.size;have N0:=aE.new w1 42 #[];have S0:aK (w1.alloc (.cells #[] 42)).drew 42 2 (.slice (some ⟨w1.heap.size,0,none⟩) 0 0) 0 []:=⟨rfl,.inr ⟨w1.heap.size,0,[],rfl,N0.drew,rfl,by unfold maxLen;omega⟩⟩;have B1:=xh (((BB.o.below O1.o BB.o.lt).alloc (.cells #[] 42)).drew);have M1:=xh ((((HM.o.below O1.o).b).alloc (.cells #[] 42)).drew);have OA:=xh (((ag.ai (S:=[mb]) O1.o).alloc (.cells #[] 42)).drew)
  have y0:=M1.o.ab (i:=0) rfl;obtain⟨v2,w2,ea,S2,o2,f2⟩:=qg S0 (some ⟨g,0,none⟩) k c (iu (l.take k)) (by rw[dH,T1.o])
   (.inr ⟨_,rfl,bn B1.o 0 _ (λj u hj=>by
    rw[Ho,ya]at hj
    split at hj
    .rw[bh,bD (aX.1 hj).1];exact hj
    .cases hj)⟩) (xS _) (by have:=HHL.o;have:=HHN.o;omega)
  rw[bh,cX]at S2;obtain⟨V2,c2,rfl⟩:=ao S2;have hg2:g∉ah (.slice (some ⟨w1.heap.size,0,none⟩) 0 0):=by
   have:=(BB.o.below O1.o BB.o.lt).lt;simp[ah];omega
  have Ig:mb∉ah (.slice (some ⟨w1.heap.size,0,none⟩) 0 0):=by
   have:=(HM.o.below O1.o).b.lt;simp[ah];omega
  have B2:=xh (B1.o.only o2 hg2);have M2:=xh (M1.o.only o2 Ig);have O2:=xh (OA.o.aN o2 (λx hx dV=>by have:=O1.o.size;simp[ah]at hx;omega));have hgB:=BB.o.lt;have hmB:=HM.o.b.lt;have F2:=xh (show ∀x∈ah (.slice V2 k c2),w.heap.size<=x from λx hx=>(f2 x hx).elim (λh=>by simp[ah]at h;omega) (λh=>by have e:(w1.alloc (.cells #[] 42)).drew.heap.size=w1.heap.size+1:=(by simp);omega));have EA:=xh ea;have y2:=M2.o.ab (i:=0) rfl
  obtain⟨v3,w3,CM,S3,o3,f3⟩:=qg S2 (if c=k+1 then some ⟨g,0,none⟩else some ⟨g,(k+1)*2,none⟩) (ln-(k+1)) (c-(k+1)) (iu (l.drop (k+1))) (by rw[dH,T2.o])
   (by
    by_cases Ea:c=k+1
    .left;have:=HHL.o;have:=HHC.o;omega
    .right;rw[if_neg Ea];refine⟨_,rfl,bn B2.o _ _ (λj u hj=>?_)⟩;rw[Hp,iT]at hj;rw[bD (aX.1 hj).1];exact hj) (xS _) (by have:=HHL.o;have:=HHN.o;omega)
  obtain⟨m3,hm3⟩:∃m3,(l.take k++l.drop (k+1)).length=m3:=⟨_,rfl⟩;rw[show k+(ln-(k+1))=(l.take k++l.drop (k+1)).length by rw[aQ,T1.o,T2.o],<-ri,hm3]at S3;have HM3:=xh hm3;clear hm3;obtain⟨V3,c3,rfl⟩:=ao S3;have hm3:mb∉ah (.slice V2 k c2):=λh=>by have:=F2.o _ h;omega
  have M3:=xh (M2.o.only o3 hm3);have O3:=xh (O2.o.aN o3 (λx hx dV=>by have:=F2.o _ hx;omega));have EA3:=xh CM;have S3:=xh S3;have F3:=xh (show ∀x∈ah (.slice V3 m3 c3),w.heap.size<=x from λx hx=>(f3 x hx).elim (F2.o x) (λh=>by have:=O2.o.size;omega));have y3:=M3.o.ab (i:=0) rfl;have z3:=M3.o.frozen 0 (by simp);clear ea CM S2 S0 N0 o2 o3 f2 f3 hg2 Ig hm3 hgB hmB hh;refine aW hK (λ_=>y0) (λaq=>?_)
  refine bx 8 λK hK=>?_;go_simp;rw[EA.o];go_simp;refine aW hK (λ_=>y2) (λaq=>?_);refine bx 16 λK hK=>?_;go_simp;rw[EA3.o];go_simp;refine aW hK (λ_=>y3) (λaq=>?_);refine bx 17 λK hK=>?_;go_simp;refine aW hK (λ_=>y3) (λaq=>?_);refine cV [(18,33)] ?_
  iterate 1 refine fW ?_
  refine bx 19 λK hK=>?_;go_simp;refine aW hK (λh=>absurd rfl h) (λaq=>?_);refine jc (by kernel_rfl) ?_ _;generalize (if c=k+1 then some (⟨g,0,none⟩:Addr)else some ⟨g,(k+1)*2,none⟩)=B9;have MF:=xh (M3.o.bG 0 (.slice V3 m3 c3));have OF:=xh (O3.o.setCell (p:=⟨mb,0,none⟩) (λ_=>by simp) (.slice V3 m3 c3))
  have SF:=xh (S3.o.only (S:=[mb]) ((ag.refl _ _).setCell (p:=⟨mb,0,none⟩) (λ_=>by simp) (.slice V3 m3 c3)) (λx hx hm=>by have:=F3.o x hx;have:=HM.o.b.lt;simp at hm;omega));go_wp2_with fail;go_ret;have HN:=HM.o.n;exact aC ⟨_,⟨MF.o,by rw[HM3.o];exact SF.o,by rw[aQ,T1.o,T2.o];have:=HHL.o;have:=HHN.o;omega⟩,OF.o⟩
structure MS(w W:World)(mb:Nat)(A:Option Addr)(ln c:Nat)(l:List PR)(key value:ByteArray)(k:Nat)(ze pe:Option Nat)(ve:Option Value):Prop where
 h:Mp W mb (.slice A ln c) l
 o:ag [mb] w W
 s:∀g∈ah (.slice A ln c),g<w.heap.size
 b:mb<w.heap.size
 z:∀b,ze=some b->aK W 42 2 (.slice (some ⟨b,0,none⟩) 0 0) 0 []/\w.heap.size<=b/\∀p,pe=some p->b≠p
 p:∀p,pe=some p->aE W p 42 #[.string key,.string value]/\w.heap.size<=p
 v:∀V,ve=some V->aK W 42 2 V k (iu (l.take k))/\∀g∈ah V,w.heap.size<=g
section
variable{w W:World}{mb:Nat}{A:Option Addr}{ln c:Nat}{l:List PR}{key value:ByteArray}{k:Nat}{ze pe:Option Nat}{ve:Option Value}
theorem MS.m0(H:MS w W mb A ln c l key value k ze pe ve):W.cell? ⟨mb,0,none⟩=some (.slice A ln c):=H.h.b.ab (i:=0) rfl
theorem MS.below(H:MS w W mb A ln c l key value k ze pe ve){W':World}(hb:Below W.heap.size W W'):MS w W' mb A ln c l key value k ze pe ve:=
 ⟨H.h.below hb,H.o.trans (.ai hb),H.s,H.b,λb h=>⟨(H.z b h).1.below hb,(H.z b h).2⟩,λp h=>⟨(H.p p h).1.below hb (H.p p h).1.lt,(H.p p h).2⟩,λV h=>⟨(H.v V h).1.below hb,(H.v V h).2⟩⟩
theorem MS.drew(H:MS w W mb A ln c l key value k ze pe ve):MS w W.drew mb A ln c l key value k ze pe ve:=H.below (Below.refl _ _).drew
theorem MS.zero(H:MS w W mb A ln c l key value k none pe ve):MS w (W.alloc (.cells #[] 42)) mb A ln c l key value k (some W.heap.size) pe ve:=by
 have H':=H.below (ae (Below.refl _ _) (.cells #[] 42));refine⟨H'.h,H'.o,H'.s,H'.b,λb hb=>?_,H'.p,H'.v⟩;injection hb with hb
 subst hb;exact⟨⟨rfl,.inr ⟨_,0,[],rfl,aE.new W _ #[],rfl,by unfold maxLen;omega⟩⟩,H.o.size,λp hp e=>by have:=(H.p p hp).1.lt;omega⟩
theorem MS.one(H:MS w W mb A ln c l key value k ze none ve):MS w (W.alloc (.cells #[.string key,.string value] 42)) mb A ln c l key value k ze (some W.heap.size) ve:=by
 have H':=H.below (ae (Below.refl _ _) (.cells #[.string key,.string value] 42));refine⟨H'.h,H'.o,H'.s,H'.b,λb hb=>⟨(H'.z b hb).1,(H'.z b hb).2.1,λp hp e=>?_⟩,λp hp=>?_,H'.v⟩
 .injection hp with hp
  have:=(H.z b hb).1.lt b (by simp[ah]);omega
 .injection hp with hp
  subst hp;exact⟨aE.new W _ _,H.o.size⟩
theorem MS.app{b:Nat}(H:MS w W mb A ln c l key value k (some b) pe none)(hk:k<=ln)(hn:ln<=1000000):
  ∃V c2 W',df prog 30 30 W (.slice (some ⟨b,0,none⟩) 0 0) (.slice A k c)= .ok (.slice V k c2) W'/\MS w W' mb A ln c l key value k none pe (some (.slice V k c2)):=by
 obtain⟨S0,hb,hbp⟩:=H.z b rfl;have hl:l.length=ln:=by have:=H.h.s.1;rw[dH]at this;have:=H.h.len;omega
 have ht:(l.take k).length=k:=by rw[bK];omega
 obtain⟨v2,w2,ea,S2,o2,f2⟩:=qg S0 A k c (iu (l.take k)) (by rw[dH,ht]) (by
  rcases H.h.s.2 with⟨hv,h0⟩|⟨g,cap,rest,hv,B,_⟩
  .left;omega
  .right;simp only[Value.slice.injEq]at hv;refine⟨_,hv.1,bn B 0 _ (λj u hj=>?_)⟩;rw[Ho,ya]at hj
   split at hj
   .rw[bh,bD (aX.1 hj).1];exact hj
   .cases hj) (xS _) (by omega)
 rw[bh,cX]at S2;obtain⟨V2,c2,rfl⟩:=ao S2;have hd:∀x∈ah (.slice (some ⟨b,0,none⟩) 0 0),x=b:=λx hx=>by simpa [ah]using hx
 have hs:∀g∈ah (.slice A ln c),g∉ah (.slice (some ⟨b,0,none⟩) 0 0):=λg hg hx=>by have:=hd g hx;have:=H.s g hg;omega
 refine⟨V2,c2,w2,ea,⟨⟨H.h.b.only o2 (λhx=>by have:=hd _ hx;have:=H.b;omega),H.h.s.only o2 hs,H.h.n⟩,H.o.aN o2 (λx hx dV=>by have:=hd x hx;omega),H.s,H.b,(λ_ h=>by cases h),λp hp=>⟨(H.p p hp).1.only o2 (λhx=>hbp p hp (hd p hx).symm),(H.p p hp).2⟩,λV hV=>?_⟩⟩;injection hV with hV
 subst hV;exact⟨S2,λg hg=>(f2 g hg).elim (λh=>by have:=hd g h;omega) (λh=>ay H.o.size h)⟩
theorem MS.Be{c2 p:Nat}(H:MS w W mb A ln c l key value k none (some p) (some (.slice V k c2)))(hk:k<=1000000):
  ∃V' c' W',df prog 30 30 W (.slice V k c2) (.slice (some ⟨p,0,none⟩) 1 1)= .ok (.slice V' (k+1) c') W'/\Mp W' mb (.slice A ln c) l/\ag [mb] w W'/\aK W' 42 2 (.slice V' (k+1) c') (k+1) (iu (l.take k++[(key,value)]))/\∀g∈ah (.slice V' (k+1) c'),w.heap.size<=g:=by
 obtain⟨S2,f2⟩:=H.v _ rfl;obtain⟨v3,w3,ea,S3,o3,f3⟩:=qg S2 (some ⟨p,0,none⟩) 1 1 [.string key,.string value] rfl (.inr ⟨_,rfl,bn (H.p p rfl).1 0 _ (λj u hj=>by rw[bh];exact hj)⟩) (by simp;exact⟨rfl,rfl⟩) (by omega);obtain⟨V3,c3,rfl⟩:=ao S3
 refine⟨V3,c3,w3,ea,⟨H.h.b.only o3 (λhx=>by have:=f2 _ hx;have:=H.b;omega),H.h.s.only o3 (λg hg hx=>by have:=f2 g hx;have:=H.s g hg;omega),H.h.n⟩,H.o.aN o3 (λx hx dV=>by have:=f2 x hx;omega),?_,λg hg=>(f3 g hg).elim (f2 g) (λh=>ay H.o.size h)⟩;rw[ri];exact S3
end
theorem rl{W:World}{ln:Nat}{k c':Nat}{L:List PR}(M:Mp W mb (.slice A ln c) l)(S:aK W 42 2 (.slice V k c') k (iu L))(f:∀g∈ah (.slice V k c'),w.heap.size<=g)(o:ag [mb] w W)
 (hs:∀g∈ah (.slice A ln c),g<w.heap.size)(hb:mb<w.heap.size)(e:Nat)(he:e<=ln)(hn:ln<=1000000)(hk:k<=1000001)(B:Option Addr)(hB:e<c->∀g,A=some ⟨g,0,none⟩->B=some ⟨g,e*2,none⟩):
  ∃V' m c2 W',df prog 30 30 W (.slice V k c') (.slice B (ln-e) (c-e))= .ok (.slice V' m c2) W'/\Mp W' mb (.slice A ln c) l/\ag [mb] w W'/\aK W' 42 2 (.slice V' m c2) (L++l.drop e).length (iu (L++l.drop e))/\∀g∈ah (.slice V' m c2),w.heap.size<=g:=by
 have hl:l.length=ln:=M.len;have hL:L.length=k:=by have:=S.1;rw[dH]at this;omega
 obtain⟨v3,w3,ea,S3,o3,f3⟩:=qg S B (ln-e) (c-e) (iu (l.drop e)) (by rw[dH,de,hl]) (by
  rcases M.s.2 with⟨hv,h0⟩|⟨g,cap,rest,hv,BB,hc,_⟩
  .left;omega
  .simp only[Value.slice.injEq]at hv;obtain⟨h1,_,h3⟩:=hv;rw[dH]at hc
   by_cases hec:e<c
   .right;refine⟨_,hB hec g h1,bn BB _ _ (λj u hj=>?_)⟩;rw[Hp,iT]at hj;rw[bD (aX.1 hj).1];exact hj
   .left;omega) (xS _) (by omega)
 obtain⟨V3,c3,rfl⟩:=ao S3;refine⟨V3,_,c3,w3,ea,⟨M.b.only o3 (λhx=>by have:=f _ hx;omega),M.s.only o3 (λg hg hx=>by have:=f g hx;have:=hs g hg;omega),M.n⟩,o.aN o3 (λx hx dV=>by have:=f x hx;omega),?_,λg hg=>(f3 g hg).elim (f g) (λh=>ay o.size h)⟩;rw[ri,show(L++l.drop e).length=k+(ln-e) by rw[aQ,hL,de,hl]];exact S3
theorem uf(h:Mp w mb v l)(key value:ByteArray)(hl:l.length<1000000)(h1:key.size<=1000000)(h2:value.size<=1000000):
  Calls prog 54 #[.pointer (some ⟨mb,0,none⟩),.string key,.string value] w λe w'=>e=.returned (.int .i64 (if 32<key.size\/1024<value.size then 4 else 0))/\∃v',Mp w' mb v' (ue l key value)/\ag [mb] w w':=by
 unfold ue;have HM:=xh h
 by_cases hk:32<key.size
 .rw[if_pos (.inl hk),if_pos (.inl hk)];have Ly:(32:Int)<(key.size:Int):=by omega
  clear h;go_enter func54,ntmps54;go_wp2_with fail;go_ret
  first|exact aC ⟨v,HM.o,ag.refl _ _⟩|exact aC ⟨⟨v,HM.o⟩,ag.refl _ _⟩
 have Ly:¬(32:Int)<(key.size:Int):=by omega
 by_cases hv:1024<value.size
 .rw[if_pos (.inr hv),if_pos (.inr hv)];have hvI:(1024:Int)<(value.size:Int):=by omega
  clear h;go_enter func54,ntmps54;go_wp2_with fail;go_ret
  first|exact aC ⟨v,HM.o,ag.refl _ _⟩|exact aC ⟨⟨v,HM.o⟩,ag.refl _ _⟩
 have hvI:¬(1024:Int)<(value.size:Int):=by omega
 rw[if_neg (by omega),if_neg (by omega)];have KA:=xh (EV h key);obtain⟨A,c,rfl⟩:=ao h.s;have hle:=KZ key l;have hlen:=h.len;obtain⟨ln,mC⟩:∃ln,l.length=ln:=⟨_,rfl⟩;rw[mC]at hle hl HM;have DI:=xh mC;have hcc:ln<=c:=by
  rcases h.s.2 with⟨hv,h0⟩|⟨g,cap,rest,hv,_,hc,_⟩
  .omega
  .simp only[Value.slice.injEq]at hv;rw[dH]at hc;omega
 obtain⟨e,he⟩:∃e,(if rK l key=true then oP l key+1 else oP l key)=e:=⟨_,rfl⟩;have hel:e<=ln:=by
  rw[<-he]
  split
  .rename_i hb;unfold rK at hb
   cases hx:l[oP l key]? with
   |none=>rw[hx]at hb;cases hb
   |some x=>have:=(aX.1 hx).1;omega
  .exact hle
 rw[he];obtain⟨k,hk'⟩:∃k,oP l key=k:=⟨_,rfl⟩;rw[hk']at KA hle he ⊢;have s1:k<=c:=by omega
 have s2:(k:Int)<=(c:Int):=by omega
 have s3:(e:Int)<=(ln:Int):=by omega
 have s4:(ln:Int)<=(c:Int):=by omega
 have s5:(e:Int)<=(c:Int):=by omega
 have s9:e<=ln:=hel;have s10:e<=c:=by omega
 have HH:=xh (show k<=ln/\e<=ln/\ln<1000000 from⟨hle,hel,hl⟩);have HHC:=xh hcc;have Fe:=xh h.s.lt;have Ii:=xh h.b.lt;rw[mC]at Fe
 cases hb:rK l key
 .rw[hb]at KA he;rw[if_neg (by simp)]at he;have s8:IntKind.i64.wrap ((k:Int)+1)=(k:Int)+1:=IntWalk.i64_in _ (by omega);subst he
  push_cast at s3 s5
  have s6:(0:Int)<=(k:Int)+1:=by omega
  have s7:((k:Int)+1).toNat=k+1:=by omega
  clear h hb hk' mC hlen hle hel hcc hl hk hv;go_enter func54,ntmps54;go_wp2_with fail;refine KA.o.mono ?_;rintro e w1 ⟨rfl,aJ⟩;have H0:=xh (show MS w w1 mb A ln c l key value k none none none from⟨HM.o.below aJ,.ai aJ,Fe.o,Ii.o,(λ_ h=>by cases h),(λ_ h=>by cases h),(λ_ h=>by cases h)⟩);clear aJ;go_wp2_with fail;refine oQ (S:=λW=>W.cell? ⟨mb,0,none⟩=some (.slice A ln c)) 23 (by kernel_rfl) (H0.o.drew.m0) (λaq=>?_)
  refine cV [(0,28),(2,30),(3,31),(4,32),(5,33),(6,34),(7,35),(9,37),(10,38),(11,39),(14,42),(15,43),(16,44),(17,45),(18,46),(19,47)] ?_
  iterate 16 refine fW ?_
  refine kx (rs:=[1,12]) (by kernel_rfl) (by simp) ?_;refine eS.cons (λK hK=>?_) (eS.cons (λK hK=>?_) eS.nil)
  .skip
   have H1:=xh H0.o.zero;go_simp;refine aW hK (λ_=>H1.o.drew.m0) (λaq=>?_);refine kx (rs:=[8,12]) (by kernel_rfl) (by simp) ?_;refine eS.cons (λK hK=>?_) (eS.cons (λK hK=>?_) eS.nil)
   .skip
    obtain⟨V2,c2,w2,ea,hq⟩:=H1.o.drew.app HH.o.1 (by have:=HH.o;omega)
    try simp only[eJ]at ea
    have H2:=xh hq;clear hq;go_simp;clear ea;refine aW hK (λ_=>H2.o.m0) (λaq=>?_);refine bx 12 λK hK=>?_;have H3:=xh H2.o.one;go_simp;refine aW hK (λ_=>H3.o.m0) (λaq=>?_);obtain⟨V3,c3,w3,CM,M3,o3,S3,f3⟩:=H3.o.Be (by have:=HH.o;omega)
    try simp only[eJ]at CM
    have y3:=M3.b.ab (i:=0) rfl;obtain⟨V4,m4,c4,w4,ea4,M4,o4,S4,f4⟩:=rl M3 S3 f3 o3 Fe.o Ii.o k HH.o.2.1 (by have:=HH.o;omega) (by have:=HH.o;omega) (if c=k then A else Option.map (λx=>x.add (k*2)) A) (λhc g hg=>by rw[if_neg (by omega),hg];exact congrArg some (show(⟨g,0,none⟩:Addr).add (k*2)=_ from by rw[Nd.eP,bh]));have y4:=M4.b.ab (i:=0) rfl;have z4:=M4.b.frozen 0 (by simp);have M4:=xh M4;have o4:=xh o4;have S4:=xh S4
    have f4:=xh f4;clear M3 S3 f3 o3;refine bx 13 λK hK=>?_;go_simp;refine aW hK (λ_=>y3) (λaq=>?_);refine bx 20 λK hK=>?_;go_simp;refine aW hK (λ_=>y4) (λaq=>?_);refine bx 21 λK hK=>?_;go_simp;refine aW hK (λ_=>y4) (λaq=>?_);refine cV [(22,50)] ?_
    iterate 1 refine fW ?_
    refine bx 23 λK hK=>?_;go_simp;refine aW hK (λh=>absurd rfl h) (λaq=>?_);refine jc (by kernel_rfl) ?_ _;have MF:=xh (M4.o.b.bG 0 (.slice V4 m4 c4));have OF:=xh (o4.o.setCell (p:=⟨mb,0,none⟩) (λ_=>by simp) (.slice V4 m4 c4));have SF:=xh (S4.o.only (S:=[mb]) ((ag.refl _ _).setCell (p:=⟨mb,0,none⟩) (λ_=>by simp) (.slice V4 m4 c4)) (λx hx hm=>by have:=f4.o x hx;have:=Ii.o;simp at hm;omega))
    generalize (if c=k then A else Option.map (λx=>x.add (k*2)) A)=B9;go_wp2_with fail;go_ret;have HN:=HM.o.n;have hq:=And.intro MF.o (And.intro SF.o OF.o);rw[cL]at hq;exact aC ⟨_,⟨hq.1,hq.2.1,by simp only[aQ,bK,de,ff,kz,DI.o];have:=HH.o;omega⟩,hq.2.2⟩
   .skip
    have H2:=xh H1.o.one;go_simp;refine aW hK (λ_=>H2.o.drew.m0) (λaq=>?_);refine bx 8 λK hK=>?_;obtain⟨V2,c2,w2,ea,hq⟩:=H2.o.drew.app HH.o.1 (by have:=HH.o;omega)
    try simp only[eJ]at ea
    have H3:=xh hq;clear hq;go_simp;clear ea;refine aW hK (λ_=>H3.o.m0) (λaq=>?_);obtain⟨V3,c3,w3,CM,M3,o3,S3,f3⟩:=H3.o.Be (by have:=HH.o;omega)
    try simp only[eJ]at CM
    have y3:=M3.b.ab (i:=0) rfl;obtain⟨V4,m4,c4,w4,ea4,M4,o4,S4,f4⟩:=rl M3 S3 f3 o3 Fe.o Ii.o k HH.o.2.1 (by have:=HH.o;omega) (by have:=HH.o;omega) (if c=k then A else Option.map (λx=>x.add (k*2)) A) (λhc g hg=>by rw[if_neg (by omega),hg];exact congrArg some (show(⟨g,0,none⟩:Addr).add (k*2)=_ from by rw[Nd.eP,bh]));have y4:=M4.b.ab (i:=0) rfl;have z4:=M4.b.frozen 0 (by simp);have M4:=xh M4;have o4:=xh o4;have S4:=xh S4
    have f4:=xh f4;clear M3 S3 f3 o3;refine bx 13 λK hK=>?_;go_simp;refine aW hK (λ_=>y3) (λaq=>?_);refine bx 20 λK hK=>?_;go_simp;refine aW hK (λ_=>y4) (λaq=>?_);refine bx 21 λK hK=>?_;go_simp;refine aW hK (λ_=>y4) (λaq=>?_);refine cV [(22,50)] ?_
    iterate 1 refine fW ?_
    refine bx 23 λK hK=>?_;go_simp;refine aW hK (λh=>absurd rfl h) (λaq=>?_);refine jc (by kernel_rfl) ?_ _;have MF:=xh (M4.o.b.bG 0 (.slice V4 m4 c4));have OF:=xh (o4.o.setCell (p:=⟨mb,0,none⟩) (λ_=>by simp) (.slice V4 m4 c4));have SF:=xh (S4.o.only (S:=[mb]) ((ag.refl _ _).setCell (p:=⟨mb,0,none⟩) (λ_=>by simp) (.slice V4 m4 c4)) (λx hx hm=>by have:=f4.o x hx;have:=Ii.o;simp at hm;omega))
    generalize (if c=k then A else Option.map (λx=>x.add (k*2)) A)=B9;go_wp2_with fail;go_ret;have HN:=HM.o.n;have hq:=And.intro MF.o (And.intro SF.o OF.o);rw[cL]at hq;exact aC ⟨_,⟨hq.1,hq.2.1,by simp only[aQ,bK,de,ff,kz,DI.o];have:=HH.o;omega⟩,hq.2.2⟩
  .skip
   have H1:=xh H0.o.one;go_simp;refine aW hK (λ_=>H1.o.drew.m0) (λaq=>?_);refine bx 1 λK hK=>?_;have H2:=xh H1.o.zero;go_simp;refine aW hK (λ_=>H2.o.drew.m0) (λaq=>?_);refine bx 8 λK hK=>?_;obtain⟨V2,c2,w2,ea,hq⟩:=H2.o.drew.app HH.o.1 (by have:=HH.o;omega)
   try simp only[eJ]at ea
   have H3:=xh hq;clear hq;go_simp;clear ea;refine aW hK (λ_=>H3.o.m0) (λaq=>?_);obtain⟨V3,c3,w3,CM,M3,o3,S3,f3⟩:=H3.o.Be (by have:=HH.o;omega)
   try simp only[eJ]at CM
   have y3:=M3.b.ab (i:=0) rfl;obtain⟨V4,m4,c4,w4,ea4,M4,o4,S4,f4⟩:=rl M3 S3 f3 o3 Fe.o Ii.o k HH.o.2.1 (by have:=HH.o;omega) (by have:=HH.o;omega) (if c=k then A else Option.map (λx=>x.add (k*2)) A) (λhc g hg=>by rw[if_neg (by omega),hg];exact congrArg some (show(⟨g,0,none⟩:Addr).add (k*2)=_ from by rw[Nd.eP,bh]));have y4:=M4.b.ab (i:=0) rfl;have z4:=M4.b.frozen 0 (by simp);have M4:=xh M4;have o4:=xh o4;have S4:=xh S4
   have f4:=xh f4;clear M3 S3 f3 o3;refine bx 13 λK hK=>?_;go_simp;refine aW hK (λ_=>y3) (λaq=>?_);refine bx 20 λK hK=>?_;go_simp;refine aW hK (λ_=>y4) (λaq=>?_);refine bx 21 λK hK=>?_;go_simp;refine aW hK (λ_=>y4) (λaq=>?_);refine cV [(22,50)] ?_
   iterate 1 refine fW ?_
   refine bx 23 λK hK=>?_;go_simp;refine aW hK (λh=>absurd rfl h) (λaq=>?_);refine jc (by kernel_rfl) ?_ _;have MF:=xh (M4.o.b.bG 0 (.slice V4 m4 c4));have OF:=xh (o4.o.setCell (p:=⟨mb,0,none⟩) (λ_=>by simp) (.slice V4 m4 c4));have SF:=xh (S4.o.only (S:=[mb]) ((ag.refl _ _).setCell (p:=⟨mb,0,none⟩) (λ_=>by simp) (.slice V4 m4 c4)) (λx hx hm=>by have:=f4.o x hx;have:=Ii.o;simp at hm;omega))
   generalize (if c=k then A else Option.map (λx=>x.add (k*2)) A)=B9;go_wp2_with fail;go_ret;have HN:=HM.o.n;have hq:=And.intro MF.o (And.intro SF.o OF.o);rw[cL]at hq;exact aC ⟨_,⟨hq.1,hq.2.1,by simp only[aQ,bK,de,ff,kz,DI.o];have:=HH.o;omega⟩,hq.2.2⟩
 .rw[hb]at KA he;rw[if_pos rfl]at he;have s8:IntKind.i64.wrap ((k:Int)+1)=(k:Int)+1:=IntWalk.i64_in _ (by omega);subst he
  push_cast at s3 s5
  have s6:(0:Int)<=(k:Int)+1:=by omega
  have s7:((k:Int)+1).toNat=k+1:=by omega
  clear h hb hk' mC hlen hle hel hcc hl hk hv;go_enter func54,ntmps54;go_wp2_with fail;refine KA.o.mono ?_;rintro e w1 ⟨rfl,aJ⟩;have H0:=xh (show MS w w1 mb A ln c l key value k none none none from⟨HM.o.below aJ,.ai aJ,Fe.o,Ii.o,(λ_ h=>by cases h),(λ_ h=>by cases h),(λ_ h=>by cases h)⟩);clear aJ;go_wp2_with fail;refine oQ (S:=λW=>W.cell? ⟨mb,0,none⟩=some (.slice A ln c)) 23 (by kernel_rfl) (H0.o.drew.m0) (λaq=>?_)
  refine cV [(0,28),(2,30),(3,31),(4,32),(5,33),(6,34),(7,35),(9,37),(10,38),(11,39),(14,42),(15,43),(16,44),(17,45),(18,46),(19,47)] ?_
  iterate 16 refine fW ?_
  refine kx (rs:=[1,12]) (by kernel_rfl) (by simp) ?_;refine eS.cons (λK hK=>?_) (eS.cons (λK hK=>?_) eS.nil)
  .skip
   have H1:=xh H0.o.zero;go_simp;refine aW hK (λ_=>H1.o.drew.m0) (λaq=>?_);refine kx (rs:=[8,12]) (by kernel_rfl) (by simp) ?_;refine eS.cons (λK hK=>?_) (eS.cons (λK hK=>?_) eS.nil)
   .skip
    obtain⟨V2,c2,w2,ea,hq⟩:=H1.o.drew.app HH.o.1 (by have:=HH.o;omega)
    try simp only[eJ]at ea
    have H2:=xh hq;clear hq;go_simp;clear ea;refine aW hK (λ_=>H2.o.m0) (λaq=>?_);refine bx 12 λK hK=>?_;have H3:=xh H2.o.one;go_simp;refine aW hK (λ_=>H3.o.m0) (λaq=>?_);obtain⟨V3,c3,w3,CM,M3,o3,S3,f3⟩:=H3.o.Be (by have:=HH.o;omega)
    try simp only[eJ]at CM
    have y3:=M3.b.ab (i:=0) rfl;obtain⟨V4,m4,c4,w4,ea4,M4,o4,S4,f4⟩:=rl M3 S3 f3 o3 Fe.o Ii.o (k+1) HH.o.2.1 (by have:=HH.o;omega) (by have:=HH.o;omega) (if c=(k+1)then A else Option.map (λx=>x.add ((k+1)*2)) A) (λhc g hg=>by rw[if_neg (by omega),hg];exact congrArg some (show(⟨g,0,none⟩:Addr).add ((k+1)*2)=_ from by rw[Nd.eP,bh]));have y4:=M4.b.ab (i:=0) rfl;have z4:=M4.b.frozen 0 (by simp);have M4:=xh M4;have o4:=xh o4
    have S4:=xh S4;have f4:=xh f4;clear M3 S3 f3 o3;refine bx 13 λK hK=>?_;go_simp;refine aW hK (λ_=>y3) (λaq=>?_);refine bx 20 λK hK=>?_;go_simp;refine aW hK (λ_=>y4) (λaq=>?_);refine bx 21 λK hK=>?_;go_simp;refine aW hK (λ_=>y4) (λaq=>?_);refine cV [(22,50)] ?_
    iterate 1 refine fW ?_
    refine bx 23 λK hK=>?_;go_simp;refine aW hK (λh=>absurd rfl h) (λaq=>?_);refine jc (by kernel_rfl) ?_ _;have MF:=xh (M4.o.b.bG 0 (.slice V4 m4 c4));have OF:=xh (o4.o.setCell (p:=⟨mb,0,none⟩) (λ_=>by simp) (.slice V4 m4 c4));have SF:=xh (S4.o.only (S:=[mb]) ((ag.refl _ _).setCell (p:=⟨mb,0,none⟩) (λ_=>by simp) (.slice V4 m4 c4)) (λx hx hm=>by have:=f4.o x hx;have:=Ii.o;simp at hm;omega))
    generalize (if c=(k+1)then A else Option.map (λx=>x.add ((k+1)*2)) A)=B9;go_wp2_with fail;go_ret;have HN:=HM.o.n;have hq:=And.intro MF.o (And.intro SF.o OF.o);rw[cL]at hq;exact aC ⟨_,⟨hq.1,hq.2.1,by simp only[aQ,bK,de,ff,kz,DI.o];have:=HH.o;omega⟩,hq.2.2⟩
   .skip
    have H2:=xh H1.o.one;go_simp;refine aW hK (λ_=>H2.o.drew.m0) (λaq=>?_);refine bx 8 λK hK=>?_;obtain⟨V2,c2,w2,ea,hq⟩:=H2.o.drew.app HH.o.1 (by have:=HH.o;omega)
    try simp only[eJ]at ea
    have H3:=xh hq;clear hq;go_simp;clear ea;refine aW hK (λ_=>H3.o.m0) (λaq=>?_);obtain⟨V3,c3,w3,CM,M3,o3,S3,f3⟩:=H3.o.Be (by have:=HH.o;omega)
    try simp only[eJ]at CM
    have y3:=M3.b.ab (i:=0) rfl;obtain⟨V4,m4,c4,w4,ea4,M4,o4,S4,f4⟩:=rl M3 S3 f3 o3 Fe.o Ii.o (k+1) HH.o.2.1 (by have:=HH.o;omega) (by have:=HH.o;omega) (if c=(k+1)then A else Option.map (λx=>x.add ((k+1)*2)) A) (λhc g hg=>by rw[if_neg (by omega),hg];exact congrArg some (show(⟨g,0,none⟩:Addr).add ((k+1)*2)=_ from by rw[Nd.eP,bh]));have y4:=M4.b.ab (i:=0) rfl;have z4:=M4.b.frozen 0 (by simp);have M4:=xh M4;have o4:=xh o4
    have S4:=xh S4;have f4:=xh f4;clear M3 S3 f3 o3;refine bx 13 λK hK=>?_;go_simp;refine aW hK (λ_=>y3) (λaq=>?_);refine bx 20 λK hK=>?_;go_simp;refine aW hK (λ_=>y4) (λaq=>?_);refine bx 21 λK hK=>?_;go_simp;refine aW hK (λ_=>y4) (λaq=>?_);refine cV [(22,50)] ?_
    iterate 1 refine fW ?_
    refine bx 23 λK hK=>?_;go_simp;refine aW hK (λh=>absurd rfl h) (λaq=>?_);refine jc (by kernel_rfl) ?_ _;have MF:=xh (M4.o.b.bG 0 (.slice V4 m4 c4));have OF:=xh (o4.o.setCell (p:=⟨mb,0,none⟩) (λ_=>by simp) (.slice V4 m4 c4));have SF:=xh (S4.o.only (S:=[mb]) ((ag.refl _ _).setCell (p:=⟨mb,0,none⟩) (λ_=>by simp) (.slice V4 m4 c4)) (λx hx hm=>by have:=f4.o x hx;have:=Ii.o;simp at hm;omega))
    generalize (if c=(k+1)then A else Option.map (λx=>x.add ((k+1)*2)) A)=B9;go_wp2_with fail;go_ret;have HN:=HM.o.n;have hq:=And.intro MF.o (And.intro SF.o OF.o);rw[cL]at hq;exact aC ⟨_,⟨hq.1,hq.2.1,by simp only[aQ,bK,de,ff,kz,DI.o];have:=HH.o;omega⟩,hq.2.2⟩
  .skip
   have H1:=xh H0.o.one;go_simp;refine aW hK (λ_=>H1.o.drew.m0) (λaq=>?_);refine bx 1 λK hK=>?_;have H2:=xh H1.o.zero;go_simp;refine aW hK (λ_=>H2.o.drew.m0) (λaq=>?_);refine bx 8 λK hK=>?_;obtain⟨V2,c2,w2,ea,hq⟩:=H2.o.drew.app HH.o.1 (by have:=HH.o;omega)
   try simp only[eJ]at ea
   have H3:=xh hq;clear hq;go_simp;clear ea;refine aW hK (λ_=>H3.o.m0) (λaq=>?_);obtain⟨V3,c3,w3,CM,M3,o3,S3,f3⟩:=H3.o.Be (by have:=HH.o;omega)
   try simp only[eJ]at CM
   have y3:=M3.b.ab (i:=0) rfl;obtain⟨V4,m4,c4,w4,ea4,M4,o4,S4,f4⟩:=rl M3 S3 f3 o3 Fe.o Ii.o (k+1) HH.o.2.1 (by have:=HH.o;omega) (by have:=HH.o;omega) (if c=(k+1)then A else Option.map (λx=>x.add ((k+1)*2)) A) (λhc g hg=>by rw[if_neg (by omega),hg];exact congrArg some (show(⟨g,0,none⟩:Addr).add ((k+1)*2)=_ from by rw[Nd.eP,bh]));have y4:=M4.b.ab (i:=0) rfl;have z4:=M4.b.frozen 0 (by simp);have M4:=xh M4;have o4:=xh o4
   have S4:=xh S4;have f4:=xh f4;clear M3 S3 f3 o3;refine bx 13 λK hK=>?_;go_simp;refine aW hK (λ_=>y3) (λaq=>?_);refine bx 20 λK hK=>?_;go_simp;refine aW hK (λ_=>y4) (λaq=>?_);refine bx 21 λK hK=>?_;go_simp;refine aW hK (λ_=>y4) (λaq=>?_);refine cV [(22,50)] ?_
   iterate 1 refine fW ?_
   refine bx 23 λK hK=>?_;go_simp;refine aW hK (λh=>absurd rfl h) (λaq=>?_);refine jc (by kernel_rfl) ?_ _;have MF:=xh (M4.o.b.bG 0 (.slice V4 m4 c4));have OF:=xh (o4.o.setCell (p:=⟨mb,0,none⟩) (λ_=>by simp) (.slice V4 m4 c4));have SF:=xh (S4.o.only (S:=[mb]) ((ag.refl _ _).setCell (p:=⟨mb,0,none⟩) (λ_=>by simp) (.slice V4 m4 c4)) (λx hx hm=>by have:=f4.o x hx;have:=Ii.o;simp at hm;omega))
   generalize (if c=(k+1)then A else Option.map (λx=>x.add ((k+1)*2)) A)=B9;go_wp2_with fail;go_ret;have HN:=HM.o.n;have hq:=And.intro MF.o (And.intro SF.o OF.o);rw[cL]at hq;exact aC ⟨_,⟨hq.1,hq.2.1,by simp only[aQ,bK,de,ff,kz,DI.o];have:=HH.o;omega⟩,hq.2.2⟩
end Sh
namespace Sh
open Go.RowKit Pk Dk Pg
attribute [local go_sem ↓] Go.wp_at_zero Go.wp_at_succ
variable{w:World}{v:Value}{m:Nat}{L:List Value}
structure TW(w:World)(wb tb mb:Nat)(I:Ix)(F:List Nat)(vl vo:Value)(q:QS)(n K:Nat)(l o:List PR):Prop where
 b:aE w wb 38 #[.pointer (some ⟨I.L.b,0,none⟩),.pointer (some ⟨I.pb,0,none⟩),.pointer (some ⟨tb,0,none⟩),.pointer (some ⟨mb,0,none⟩),vo]
 m:Mp w mb vl l
 s:aK w 42 2 vo o.length (iu o)
 t:TQ w tb I F q n K
 no:o.length<=1000000
theorem PQ.slcA{I:Ix}{F:List Nat}{q:QS}{n K:Nat}(h:PQ w I F q n K)(S:aK w 42 2 v m L):∀g∈ah v,g∉F:=by
 rcases S.2 with⟨rfl,_⟩|⟨g,cap,rest,rfl,B,_⟩
 .intro g hg;simp[ah]at hg
 .intro g' hg;simp only[ah,aP]at hg;subst hg;exact h.fR B
theorem Uv(S:aK w 42 2 v m L){b:Nat}{t:TypeId}{cs:Array Value}(B:aE w b t cs)(h:t≠42):∀g∈ah v,g≠b:=by
 rcases S.2 with⟨rfl,_⟩|⟨g,cap,rest,rfl,BB,_⟩
 .intro g hg;simp[ah]at hg
 .intro g' hg;simp only[ah,aP]at hg;subst hg;exact λe=>h ((e▸BB).inj B).1.symm
section
variable{w w':World}{wb tb mb:Nat}{I:Ix}{F S:List Nat}{vl vo:Value}{q q':QS}{n K K':Nat}{l o:List PR}
theorem TW.mF(h:TW w wb tb mb I F vl vo q n K l o):mb∉F:=h.t.2.fR h.m.b
theorem TW.wm(h:TW w wb tb mb I F vl vo q n K l o):wb≠mb:=h.b.lI h.m.b (by decide)
theorem TW.mt(h:TW w wb tb mb I F vl vo q n K l o):mb≠tb:=h.m.b.lI h.t.1 (by decide)
theorem TW.le(h:TW w wb tb mb I F vl vo q n K l o)(hk:K<=K'):TW w wb tb mb I F vl vo q n K' l o:=⟨h.b,h.m,h.s,h.t.le hk,h.no⟩
theorem TW.map{vl':Value}{l':List PR}(h:TW w wb tb mb I F vl vo q n K l o)(ho:ag [mb] w w')(M:Mp w' mb vl' l'):TW w' wb tb mb I F vl' vo q n K l' o:=
 ⟨h.b.only ho (by simpa using h.wm),M,h.s.only ho (λg hg hm=>Uv h.s h.m.b (by decide) g hg (aP.1 hm)),h.t.only ho (λg hg hm=>by
  have e:=aP.1 hm;subst e;exact(ar.1 hg).elim h.mt h.mF),h.no⟩
end
variable{w:World}{sb tb n Kz:Nat}{I:Ix}{F:List Nat}{q:QS}{fr:Bool}
def ky(s l:Nat)(til:ByteArray):ByteArray:=if til=⟨#[]⟩then aD s (l+1)else aD s l++til
theorem qh(s l:Nat)(hs:s<=7)(hl:l<=5)(fr til:ByteArray)(h1:fr.size<=30)(h2:til.size<=30)(w:World):
  Calls prog 96 #[.agg #[.int .i64 (s:Nat),.int .i64 (l:Nat)],.string fr,.string til] w λe w'=>e=.returned (.tuple #[.string (aD s l++fr),.string (ky s l til)])/\Below w.heap.size w w':=by
 have O0:=xh (ae (Below.refl w.heap.size w) (.cells #[.int .i64 (s:Nat),.int .i64 (l:Nat)] 177));have P0:=aE.new w 177 #[.int .i64 (s:Nat),.int .i64 (l:Nat)];obtain⟨z,hz⟩:∃z,w.heap.size=z:=⟨_,rfl⟩;rw[hz]at P0;have x0:=P0.ab (i:=0) rfl;have x1:=P0.ab (i:=1) rfl;have P0:=xh P0;have KH:=xh (λ(W:World)=>nP s l hs (by omega) W);have KN:=xh (λ(W:World)=>Pr s l hs hl W)
 have Ea:¬9223372036854775807<(aD s l).size+fr.size:=by show ¬9223372036854775807<2+fr.size;omega
 have hc2:¬9223372036854775807<(aD s l).size+til.size:=by show ¬9223372036854775807<2+til.size;omega
 unfold ky
 by_cases h:til=⟨#[]⟩
 .subst h;rw[if_pos rfl];go_enter func96,ntmps96;go_wp2_with fail;refine wp_region_held_drew (S:=λW=>W.cell? ⟨z,0,none⟩=some (.int .i64 (s:Nat))/\W.cell? ⟨z,1,none⟩=some (.int .i64 (l:Nat))) (by kernel_rfl) (⟨x0,x1⟩) (λaq=>?_);refine cV [(0,10),(2,12),(4,14)] ?_
  iterate 3 refine bj ?_
  refine dn 1 11 λK hK=>?_;go_simp
  go_at_call 97
  refine(KH.o _).mono ?_;rintro e w1 ⟨rfl,aJ⟩;have P1:=xh (P0.o.drew.below aJ P0.o.drew.lt);have O1:=xh (au O0.o.drew aJ);clear aJ;go_simp;refine aW hK (⟨P1.o.ab (i:=0) rfl,P1.o.ab (i:=1) rfl⟩) (λaq=>?_);refine cV [(3,13)] ?_
  iterate 1 refine bj ?_
  refine dn 5 15 λK hK=>?_;go_simp
  go_at_call 145
  refine(KN.o _).mono ?_;rintro e w2 ⟨rfl,bS⟩;have P2:=xh (P1.o.below bS P1.o.lt);have O2:=xh (au O1.o bS);clear bS;go_simp;refine aW hK (⟨P2.o.ab (i:=0) rfl,P2.o.ab (i:=1) rfl⟩) (λaq=>?_);refine cV [(6,6),(7,7)] ?_
  iterate 2 refine bj ?_
  refine wpAnyH_done (by kernel_rfl) ?_ _;go_wp2_with fail;go_ret2;exact aC O2.o
 .rw[if_neg h];have eV:=Up h;have NY:¬til.toList=[]:=λe=>by
   have:=beq_eq_false_iff_ne.1 eV;exact this (by rw[e,bu])
  have Kc:(til.toList==[])=false:=by simpa using NY
  have hni:til.toList.isEmpty=false:=by simpa using NY
  go_enter func96,ntmps96;go_wp2_with fail;refine wp_region_held_drew (S:=λW=>W.cell? ⟨z,0,none⟩=some (.int .i64 (s:Nat))/\W.cell? ⟨z,1,none⟩=some (.int .i64 (l:Nat))) (by kernel_rfl) (⟨x0,x1⟩) (λaq=>?_);refine cV [(0,16),(2,18),(4,20),(6,22)] ?_
  iterate 4 refine bj ?_
  refine dn 1 17 λK hK=>?_;go_simp
  go_at_call 97
  refine(KH.o _).mono ?_;rintro e w1 ⟨rfl,aJ⟩;have P1:=xh (P0.o.drew.below aJ P0.o.drew.lt);have O1:=xh (au O0.o.drew aJ);clear aJ;go_simp;refine aW hK (⟨P1.o.ab (i:=0) rfl,P1.o.ab (i:=1) rfl⟩) (λaq=>?_);refine cV [(3,19)] ?_
  iterate 1 refine bj ?_
  refine dn 5 21 λK hK=>?_;go_simp
  go_at_call 97
  refine(KH.o _).mono ?_;rintro e w2 ⟨rfl,bS⟩;have P2:=xh (P1.o.below bS P1.o.lt);have O2:=xh (au O1.o bS);clear bS;go_simp;refine aW hK (⟨P2.o.ab (i:=0) rfl,P2.o.ab (i:=1) rfl⟩) (λaq=>?_);refine cV [(7,23),(8,6),(9,7)] ?_
  iterate 3 refine bj ?_
  refine wpAnyH_done (by kernel_rfl) ?_ _;go_wp2_with fail;go_ret2;exact aC O2.o
theorem La(B:aE w sb 182 #[tp tb,pp I.pb,.bool fr])(T:TQ w tb I F q n Kz)(hK:Kz<=999900000000)(s l:Nat)(hs:s<=7)(hl:l<=5)(ra rb:ByteArray)(h1:ra.size<=30)(h2:rb.size<=30):
  Calls prog 44 #[.pointer (some ⟨sb,0,none⟩),.int .i64 (s:Nat),.int .i64 (l:Nat),.string ra,.string rb] w λe w'=>e=.returned (.tuple #[.int .i64 (q.gW (aD s l++ra) (ky s l rb)).2.1,.int .i64 (q.gW (aD s l++ra) (ky s l rb)).2.2])/\PT w w' I F (q.gW (aD s l++ra) (ky s l rb)).1 n (Kz+30000000):=by
 obtain⟨z,hz⟩:∃z,w.heap.size=z:=⟨_,rfl⟩;have aJ:=ae (Below.refl w.heap.size w) (.cells #[.int .i64 (s:Nat),.int .i64 (l:Nat)] 177);have P0:=aE.new w 177 #[.int .i64 (s:Nat),.int .i64 (l:Nat)];obtain⟨w1,jJ⟩:∃w1,w.alloc (.cells #[.int .i64 (s:Nat),.int .i64 (l:Nat)] 177)=w1:=⟨_,rfl⟩;rw[jJ]at aJ P0;rw[hz]at P0;have xN:w1.heap.size=z+1:=by rw[<-jJ,eJ,hz]
 have SR:aK (w1.alloc (.cells #[.string ra,.string rb] 9)) 9 1 (.slice (some ⟨w1.heap.size,0,none⟩) 2 2) 2 (nQ [ra,rb]):=⟨rfl,.inr ⟨w1.heap.size,2,[],rfl,aE.new _ _ _,rfl,by decide⟩⟩;have bS:=au aJ (ae (Below.refl w1.heap.size w1) (.cells #[.string ra,.string rb] 9));have P2:=P0.alloc (.cells #[.string ra,.string rb] 9)
 have KM:=xh (rj (w:=w1.alloc (.cells #[.string ra,.string rb] 9)) sb (s:Nat) (l:Nat) ⟨by omega,by omega⟩ ⟨by omega,by omega⟩ SR (by omega) (by simpa using ⟨h1,h2⟩));rw[xN]at KM;have KW:=xh (λ(W:World)=>qh s l hs hl ra rb h1 h2 W);have KT:=xh (λ(W:World) (hW:TQ W tb I F q n Kz)=>Kv hW (by omega) (aD s l++ra) (ky s l rb));have x0:=P0.ab (i:=0) rfl;have x1:=P0.ab (i:=1) rfl
 have H0:=xh (And.intro B (And.intro T (And.intro P2 bS)));clear B T P0 P2 SR aJ bS;subst jJ;unfold tp at KT;go_enter func44,ntmps44;go_wp2_with fail;refine KM.o.mono ?_;rintro e w3 ⟨rfl,cZ⟩;have T3:=xh ((H0.o.2.1.below H0.o.2.2.2).below cZ);have B3:=xh ((H0.o.1.below H0.o.2.2.2 H0.o.1.lt).below cZ (H0.o.1.below H0.o.2.2.2 H0.o.1.lt).lt);have P3:=xh (H0.o.2.2.1.below cZ H0.o.2.2.1.lt);have O3:=xh (au H0.o.2.2.2 cZ)
 clear cZ x0 x1;have x0:=P3.o.ab (i:=0) rfl;have x1:=P3.o.ab (i:=1) rfl;go_wp2_with fail;refine(KW.o _).mono ?_;rintro e w4 ⟨rfl,eM⟩;have T4:=xh (T3.o.below eM);have B4:=xh (B3.o.below eM B3.o.lt);have O4:=xh (au O3.o eM);clear eM x0 x1;have x0:=B4.o.ab (i:=0) rfl;unfold tp at x0;go_wp2_with fail;refine(KT.o w4 T4.o).mono ?_;rintro e w5 ⟨rfl,F5,p5,o5,f5⟩
 have H5:=xh (show PT w w5 I F (q.gW (aD s l++ra) (ky s l rb)).1 n (Kz+30000000)from⟨F5,p5,(ag.ai O4.o).trans o5,λg hg=>(f5 g hg).imp id (λh=>ay O4.o.size h)⟩);clear p5 o5 f5;go_wp2_with fail;go_ret2;exact aC H5.o
def mx(x:PR):PR:=(x.1.extract 2 x.1.size,x.2)
theorem Mq(k v:ByteArray):∀(l:List PR) (i:Nat),(∃x,l[i]?=some x/\x.2=v)->iu (l.set i (k,v))=(iu l).set (i*2) (.string k)
 |[],i,⟨x,h,_⟩=>by simp at h
 |y::l,0,⟨x,h,hv⟩=>by
  simp only[rR,Option.some.injEq]at h;subst h;subst hv;rfl
 |y::l,i+1,⟨x,h,hv⟩=>by
  rw[pA]at h;have ih:=Mq k v l i ⟨x,h,hv⟩;have e:∀z:PR,∀m:List PR,iu (z::m)= .string z.1:: .string z.2::iu m:=λ_ _=>rfl;rw[List.set_cons_succ,e,e,ih,show(i+1)*2=i*2+1+1 by omega];rfl
theorem slc_key{g c:Nat}{l:List PR}(S:aK w 42 2 (.slice (some ⟨g,0,none⟩) n c) n (iu l)){i:Nat}{x:PR}(hx:l[i]?=some x)(k:ByteArray):
  aK (w.setCell ⟨g,i*2,none⟩ (.string k)) 42 2 (.slice (some ⟨g,0,none⟩) n c) n (iu (l.set i (k,x.2))):=by
 obtain⟨rest,B,hc,_,hm⟩:=S.rp;have h1:=S.1;have hi:=(aX.1 hx).1;have hp:iu (l.set i (k,x.2))=(iu l).set (i*2) (.string k):=Mq k x.2 l i ⟨x,hx,rfl⟩;have B2:=B.bG (i*2) (.string k);rw[qx,sZ _ _ (by rw[dH];omega),<-hp]at B2;refine⟨by rw[hp,bU];exact h1,.inr ⟨g,c,rest,rfl,B2,by rw[hp,bU];exact hc,hm⟩⟩
theorem Uw(L:List PR)(i:Nat)(x:PR)(hx:L[i]?=some x):((L.take i).map mx++L.drop i)[i]?=some x/\((L.take i).map mx++L.drop i).set i (x.1.extract 2 x.1.size,x.2)=(L.take (i+1)).map mx++L.drop (i+1):=by
 have hi:=(aX.1 hx).1;have hl:((L.take i).map mx).length=i:=by rw[fM,bK];omega
 have hd:L.drop i=x::L.drop (i+1):=by rw[uo hi];congr 1;have:=aT hi;rw[hx]at this;injection this with h;exact h.symm
 constructor
 .rw[dE (by omega),hl,eU,hd];rfl
 .rw[ta _ _ (by omega),hl,eU,hd,kD,hx,cW];show _++_::_=(_++[_])++_;rw[cL];rfl
theorem Px(B:aE w sb 182 #[tp tb,pp I.pb,.bool fr])(T:TQ w tb I F q n Kz)(hK:Kz<=999900000000)(s l:Nat)(hs:s<=7)(hl:l<=5)(ra rb:ByteArray)(h1:ra.size<=30)(h2:rb.size<=30)(m:Int)(hky:∀x∈(q.iF (aD s l++ra) (ky s l rb) m).2.1,2<=x.1.size/\x.1.size<=1000000)(hlen:(q.iF (aD s l++ra) (ky s l rb) m).2.1.length<=1000000):
  Calls prog 41 #[.pointer (some ⟨sb,0,none⟩),.int .i64 (s:Nat),.int .i64 (l:Nat),.string ra,.string rb,.int .i64 m] w λe w'=> ∃v,e=.returned (.tuple #[v,.int .i64 (q.iF (aD s l++ra) (ky s l rb) m).2.2])/\aK w' 42 2 v ((q.iF (aD s l++ra) (ky s l rb) m).2.1.map mx).length (iu ((q.iF (aD s l++ra) (ky s l rb) m).2.1.map mx))/\PQ w' I F (q.iF (aD s l++ra) (ky s l rb) m).1 n (Kz+300000)/\ag F w w'/\(∀g∈ah v,w.heap.size<=g):=by
 obtain⟨z,hz⟩:∃z,w.heap.size=z:=⟨_,rfl⟩;have aJ:=ae (Below.refl w.heap.size w) (.cells #[.int .i64 (s:Nat),.int .i64 (l:Nat)] 177);have P0:=aE.new w 177 #[.int .i64 (s:Nat),.int .i64 (l:Nat)];obtain⟨w1,jJ⟩:∃w1,w.alloc (.cells #[.int .i64 (s:Nat),.int .i64 (l:Nat)] 177)=w1:=⟨_,rfl⟩;rw[jJ]at aJ P0;rw[hz]at P0;have xN:w1.heap.size=z+1:=by rw[<-jJ,eJ,hz]
 have SR:aK (w1.alloc (.cells #[.string ra,.string rb] 9)) 9 1 (.slice (some ⟨w1.heap.size,0,none⟩) 2 2) 2 (nQ [ra,rb]):=⟨rfl,.inr ⟨w1.heap.size,2,[],rfl,aE.new _ _ _,rfl,by decide⟩⟩;have bS:=au aJ (ae (Below.refl w1.heap.size w1) (.cells #[.string ra,.string rb] 9));have P2:=P0.alloc (.cells #[.string ra,.string rb] 9)
 have KM:=xh (rj (w:=w1.alloc (.cells #[.string ra,.string rb] 9)) sb (s:Nat) (l:Nat) ⟨by omega,by omega⟩ ⟨by omega,by omega⟩ SR (by omega) (by simpa using ⟨h1,h2⟩));rw[xN]at KM;have KW:=xh (λ(W:World)=>qh s l hs hl ra rb h1 h2 W);have KT:=xh (λ(W:World) (hW:TQ W tb I F q n Kz)=>Ph hW (by omega) (aD s l++ra) (ky s l rb) m);have x0:=P0.ab (i:=0) rfl;have x1:=P0.ab (i:=1) rfl
 have H0:=xh (And.intro B (And.intro T (And.intro P2 bS)));clear B T P0 P2 SR aJ bS;subst jJ;unfold tp at KT;obtain⟨q1,L,er,hq1⟩:∃q1 L er,q.iF (aD s l++ra) (ky s l rb) m=(q1,L,er):=⟨_,_,_,rfl⟩;rw[hq1]at KT hky hlen ⊢;dsimp only at KT hky hlen ⊢;have HKY:=xh (And.intro hky hlen);clear hky hlen hq1;go_enter func41,ntmps41;go_wp2_with fail;refine KM.o.mono ?_;rintro e w3 ⟨rfl,cZ⟩;have T3:=xh ((H0.o.2.1.below H0.o.2.2.2).below cZ)
 have B3:=xh ((H0.o.1.below H0.o.2.2.2 H0.o.1.lt).below cZ (H0.o.1.below H0.o.2.2.2 H0.o.1.lt).lt);have P3:=xh (H0.o.2.2.1.below cZ H0.o.2.2.1.lt);have O3:=xh (au H0.o.2.2.2 cZ);clear cZ x0 x1;have x0:=P3.o.ab (i:=0) rfl;have x1:=P3.o.ab (i:=1) rfl;go_wp2_with fail;refine(KW.o _).mono ?_;rintro e w4 ⟨rfl,eM⟩;have T4:=xh (T3.o.below eM);have B4:=xh (B3.o.below eM B3.o.lt);have O4:=xh (au O3.o eM)
 clear eM x0 x1;have x0:=B4.o.ab (i:=0) rfl;unfold tp at x0;go_wp2_with fail;refine(KT.o w4 T4.o).mono ?_;rintro e w5 ⟨v,rfl,S5,p5,o5,f5⟩;obtain⟨A,c,rfl⟩:=ao S5;obtain⟨lm,SC⟩:∃lm,L.length=lm:=⟨_,rfl⟩;have Tx:=xh SC;rw[SC]at S5 f5;have P5:=xh p5;have O5:=xh ((ag.ai O4.o).trans o5);have F5:=xh (show ∀g∈ah (.slice A lm c),w4.heap.size<=g from f5)
 have S0:=xh (show aK w5 42 2 (.slice A lm c) lm (iu ((L.take 0).map mx++L.drop 0))from by simpa using S5);have HW4:=xh (show w.heap.size<=w4.heap.size from O4.o.size);have mD:=P5.o.slcA S5;have HB5:=xh mD;have hlm3:lm<=1000000:=by rw[<-SC];exact HKY.o.2
 rw[SC];clear S5 p5 o5 f5 mD x0 SC;go_wp2_with fail
 go_loopw [53] (λiv wr=> ∃i:Nat,i<=lm/\iv=.int .i64 (i:Nat)/\Hid (aK wr 42 2 (.slice A lm c) lm (iu ((L.take i).map mx++L.drop i)))/\Hid (ag (ah (.slice A lm c)) w5 wr)) (λiv _=>lm-(intOf iv).toNat)
 case atStart=>exact⟨0,bm _,rfl,S0,xh (ag.refl _ _)⟩
 case round=>
  obtain⟨i,hi,rfl,HS,HO⟩:=hrel
  by_cases h:i<lm
  .have hI:(i:Int)<(lm:Int):=by omega
   obtain⟨x,hx⟩:∃x,L[i]?=some x:=⟨_,aT (by rw[Tx.o];exact h)⟩;obtain⟨g,y,rfl,hy,hc,uj,c0,c1⟩:=aK.pr HS.o (i:=i) h;obtain⟨k1,k2⟩:=Uw L i x hx;rw[k1]at hy;injection hy with hy
   subst hy;obtain⟨h2,h3⟩:=HKY.o.1 x (aA hx);have S6:=slc_key HS.o k1 (x.1.extract 2 x.1.size);rw[k2]at S6;have S6:=xh S6;have O6:=xh (HO.o.setCell (p:=⟨g,i*2,none⟩) (λ_=>by simp[ah]) (.string (x.1.extract 2 x.1.size)));have z0:wr.frozen? ⟨g,i*2,none⟩=false:=by
    obtain⟨rest,B,hc,_,hm⟩:=HS.o.rp;exact B.frozen _ (by have:=HS.o.1;rw[jM,aQ,this];omega)
   obtain⟨xk,xv⟩:=x;dsimp only at c0 c1 h2 h3 S6 O6;have s1:(2:Int)<=(xk.size:Int):=by omega
   have ei:IntKind.i64.wrap ((i:Int)+1)=((i+1:Nat):Int):=IntWalk.i64_in _ (by omega);clear hx k1 k2;go_wp2_with fail;go_roundw
   case rel=>exact⟨i+1,by omega,by go_num,S6,O6⟩
   case measure=>simp[intOf];omega
  .have hI:¬(i:Int)<(lm:Int):=by omega
   obtain rfl:i=lm:=by omega
   have hf:=HS.o;rw[bY (by rw[Tx.o];exact aj _),j8 (by rw[Tx.o];exact aj _),jh]at hf;have H9:=xh (show aK wr 42 2 (.slice A i c) L.length (iu (L.map mx))/\PQ wr I F q1 n (Kz+300000)/\ag F w wr/\∀g∈ah (.slice A i c),z<=g from
    ⟨by rw[Tx.o];exact hf,P5.o.only HO.o (λg hg hm=>HB5.o g hm hg),O5.o.aN HO.o (λy hy hl=>by have:=F5.o y hy;have:=HW4.o;omega),λg hg=>by have:=F5.o g hg;have:=HW4.o;omega⟩)
   clear hf;go_wp2_with fail;go_ret2;exact⟨.slice A i c,by first|rfl|simp,H9.o⟩
def Mr(r:PR×Int):PR:=if r.2=0 then mx r.1 else(⟨#[]⟩,⟨#[]⟩)
theorem Py{w:World}{sb tb:Nat}{I:Ix}{F:List Nat}{q:QS}{n Kz:Nat}{fr:Bool}(B:aE w sb 182 #[tp tb,pp I.pb,.bool fr])(T:TQ w tb I F q n Kz)(hK:Kz<=999900000000)(s l:Nat)(hs:s<=7)(hl:l<=5)(ra rb:ByteArray)(h1:ra.size<=30)(h2:rb.size<=30)(hky:(q.il (aD s l++ra) (ky s l rb)).2.2=0->2<=(q.il (aD s l++ra) (ky s l rb)).2.1.1.size/\(q.il (aD s l++ra) (ky s l rb)).2.1.1.size<=1000000):
  Calls prog 43 #[.pointer (some ⟨sb,0,none⟩),.int .i64 (s:Nat),.int .i64 (l:Nat),.string ra,.string rb] w λe w'=>e=.returned (.tuple #[prV (Mr (q.il (aD s l++ra) (ky s l rb)).2),.int .i64 (q.il (aD s l++ra) (ky s l rb)).2.2])/\PQ w' I F (q.il (aD s l++ra) (ky s l rb)).1 n (Kz+600)/\ag F w w':=by
 obtain⟨z,hz⟩:∃z,w.heap.size=z:=⟨_,rfl⟩;have KT:=xh (λ(W:World) (hW:TQ W tb I F q n Kz)=>Pj hW (by omega) (aD s l++ra) (ky s l rb));obtain⟨q1,x3,er,hq1⟩:∃q1 x3 er,(q.il (aD s l++ra) (ky s l rb))=(q1,x3,er):=⟨_,_,_,rfl⟩;rw[hq1]at KT hky ⊢;dsimp only at KT hky ⊢;have HKY:=xh hky;obtain⟨lr,Ux⟩:∃lr,Mr (x3,er)=lr:=⟨_,rfl⟩;rw[Ux];have HLR:=xh Ux;clear Ux;have ry:=ae (Below.refl w.heap.size w) (.cells #[.string ⟨#[]⟩,.string ⟨#[]⟩] 42)
 have c0:=aE.new w 42 #[.string ⟨#[]⟩,.string ⟨#[]⟩];have aJ:=ae ry (.cells #[.int .i64 (s:Nat),.int .i64 (l:Nat)] 177);have c1:=c0.alloc (.cells #[.int .i64 (s:Nat),.int .i64 (l:Nat)] 177);obtain⟨w1,jJ⟩:∃w1,(w.alloc (.cells #[.string ⟨#[]⟩,.string ⟨#[]⟩] 42)).alloc (.cells #[.int .i64 (s:Nat),.int .i64 (l:Nat)] 177)=w1:=⟨_,rfl⟩;have P0:=aE.new (w.alloc (.cells #[.string ⟨#[]⟩,.string ⟨#[]⟩] 42)) 177 #[.int .i64 (s:Nat),.int .i64 (l:Nat)];rw[jJ]at aJ c1 P0;rw[eJ,hz]at P0
 rw[hz]at c1;have xN:w1.heap.size=z+2:=by rw[<-jJ,eJ,eJ,hz]
 have SR:aK (w1.alloc (.cells #[.string ra,.string rb] 9)) 9 1 (.slice (some ⟨w1.heap.size,0,none⟩) 2 2) 2 (nQ [ra,rb]):=⟨rfl,.inr ⟨w1.heap.size,2,[],rfl,aE.new _ _ _,rfl,by decide⟩⟩;have bS:=au aJ (ae (Below.refl w1.heap.size w1) (.cells #[.string ra,.string rb] 9));have P2:=P0.alloc (.cells #[.string ra,.string rb] 9);have c2:=c1.alloc (.cells #[.string ra,.string rb] 9)
 have KM:=xh (rj (w:=w1.alloc (.cells #[.string ra,.string rb] 9)) sb (s:Nat) (l:Nat) ⟨by omega,by omega⟩ ⟨by omega,by omega⟩ SR (by omega) (by simpa using ⟨h1,h2⟩));rw[xN]at KM;have KW:=xh (λ(W:World)=>qh s l hs hl ra rb h1 h2 W);have x0:=P0.ab (i:=0) rfl;have x1:=P0.ab (i:=1) rfl;have H0:=xh (And.intro B (And.intro T (And.intro P2 (And.intro bS c2))));have HZ:=xh hz;clear B T P0 P2 SR ry aJ bS c0 c1 c2 hky hq1;subst jJ;unfold tp at KT
 unfold prV at KT;go_enter func43,ntmps43;go_wp2_with fail;refine KM.o.mono ?_;rintro e w3 ⟨rfl,cZ⟩;have T3:=xh ((H0.o.2.1.below H0.o.2.2.2.1).below cZ);have B3:=xh ((H0.o.1.below H0.o.2.2.2.1 H0.o.1.lt).below cZ (H0.o.1.below H0.o.2.2.2.1 H0.o.1.lt).lt);have P3:=xh (H0.o.2.2.1.below cZ H0.o.2.2.1.lt);have C3:=xh (H0.o.2.2.2.2.below cZ H0.o.2.2.2.2.lt);have O3:=xh (au H0.o.2.2.2.1 cZ);clear cZ x0 x1
 have x0:=P3.o.ab (i:=0) rfl;have x1:=P3.o.ab (i:=1) rfl;go_wp2_with fail;refine(KW.o _).mono ?_;rintro e w4 ⟨rfl,eM⟩;have T4:=xh (T3.o.below eM);have B4:=xh (B3.o.below eM B3.o.lt);have C4:=xh (C3.o.below eM C3.o.lt);have O4:=xh (au O3.o eM);have NZ:=xh (show z∉F from λhm=>by have:=H0.o.2.1.2.lt _ hm;have:=HZ.o;omega);clear eM x0 x1;have x0:=B4.o.ab (i:=0) rfl;unfold tp at x0;go_wp2_with fail
 refine(KT.o w4 T4.o).mono ?_;rintro e w5 ⟨rfl,p5,o5⟩;have C5:=C4.o.only o5 NZ.o;have HP5:=xh (And.intro p5 ((ag.ai (S:=F) O4.o).trans o5));have eV:¬z=w5.heap.size:=λe=>by have:=(C4.o.only o5 NZ.o).lt;omega
 have dV:z<w5.heap.size:=(C4.o.only o5 NZ.o).lt;clear p5 o5 x0;have Ux:=HLR.o;unfold Mr at Ux
 by_cases he:er=0
 .subst he;rw[if_pos rfl]at Ux;obtain⟨k2,k3⟩:=HKY.o rfl;obtain⟨xk,xv⟩:=x3;dsimp only at k2 k3 Ux;subst Ux;have s1:(2:Int)<=(xk.size:Int):=by omega
  obtain⟨B8,o8,d0,d1,z0,z1⟩:=iU (a':=xk.extract 2 xk.size) (b':=xv) C5;have H8:=xh (And.intro (B8.alloc (.cells #[.string (xk.extract 2 xk.size),.string xv] 42)) (o8.alloc (.cells #[.string (xk.extract 2 xk.size),.string xv] 42)));clear B8 o8 C5;go_wp2_with fail
  exact bodyPost_ret (nN rfl rfl H8.o.1) rfl ⟨rfl,HP5.o.1.only H8.o.2 (λg hg hm=>NZ.o ((aP.1 hm)▸hg)),HP5.o.2.aN H8.o.2 (λg hg hl=>by have:=HZ.o;have:=aP.1 hg;omega)⟩
 .dsimp only at Ux;rw[if_neg he]at Ux;subst Ux;obtain⟨B8,o8,d0,d1,z0,z1⟩:=iU (a':=⟨#[]⟩) (b':=⟨#[]⟩) C5;have hq:(er != 0)=true:=by rw[bne_iff_ne];exact he
  have ki:(er==0)=false:=by rw[beq_eq_false_iff_ne];exact he
  have H8:=xh (And.intro (B8.alloc (.cells #[.string x3.1,.string x3.2] 42)) (o8.alloc (.cells #[.string x3.1,.string x3.2] 42)));clear B8 o8 C5;go_wp2_with fail;exact bodyPost_ret (nN rfl rfl H8.o.1) rfl ⟨rfl,HP5.o.1.only H8.o.2 (λg hg hm=>NZ.o ((aP.1 hm)▸hg)),HP5.o.2.aN H8.o.2 (λg hg hl=>by have:=HZ.o;have:=aP.1 hg;omega)⟩
theorem Mu(sb:Nat)(sp lp:Int)(r:ByteArray)(tC:Bb sp lp [r]≠0)(w:World):Calls prog 42 #[.pointer (some ⟨sb,0,none⟩),.int .i64 sp,.int .i64 lp,.string r] w λe w'=>e=.returned (.tuple #[.string ⟨#[]⟩,.int .i64 2])/\Below w.heap.size w w':=by
 have h2:=(Aj sp lp [r]).resolve_left tC;obtain⟨z,hz⟩:∃z,w.heap.size=z:=⟨_,rfl⟩;have aJ:=ae (Below.refl w.heap.size w) (.cells #[.int .i64 sp,.int .i64 lp] 177);have p0:=aE.new w 177 #[.int .i64 sp,.int .i64 lp];obtain⟨w1,jJ⟩:∃w1,w.alloc (.cells #[.int .i64 sp,.int .i64 lp] 177)=w1:=⟨_,rfl⟩;rw[jJ]at aJ p0;rw[hz]at p0;have xN:w1.heap.size=z+1:=by rw[<-jJ,eJ,hz]
 have SR:aK (w1.alloc (.cells #[.string r] 9)) 9 1 (.slice (some ⟨w1.heap.size,0,none⟩) 1 1) 1 (nQ [r]):=⟨rfl,.inr ⟨w1.heap.size,1,[],rfl,aE.new _ _ _,rfl,by decide⟩⟩;have HB:=xh (au aJ (ae (Below.refl w1.heap.size w1) (.cells #[.string r] 9)));have KM:=xh (Hm (w:=w1.alloc (.cells #[.string r] 9)) sb sp lp SR (by omega));rw[xN,h2]at KM;have x0:=p0.ab (i:=0) rfl;have x1:=p0.ab (i:=1) rfl;clear aJ p0 SR h2 tC;subst jJ
 go_enter func42,ntmps42;go_wp2_with fail;refine KM.o.mono ?_;rintro e w4 ⟨rfl,hb⟩;have O4:=xh (au HB.o hb);clear hb x0 x1;go_wp2_with fail;go_ret2;exact aC O4.o
theorem Uy(sb:Nat)(sp lp:Int)(a b:ByteArray)(m:Int)(tC:Bb sp lp [a,b]≠0)(w:World):Calls prog 41 #[.pointer (some ⟨sb,0,none⟩),.int .i64 sp,.int .i64 lp,.string a,.string b,.int .i64 m] w λe w'=>e=.returned (.tuple #[.slice none 0 0,.int .i64 2])/\Below w.heap.size w w':=by
 have h2:=(Aj sp lp [a,b]).resolve_left tC;obtain⟨z,hz⟩:∃z,w.heap.size=z:=⟨_,rfl⟩;have aJ:=ae (Below.refl w.heap.size w) (.cells #[.int .i64 sp,.int .i64 lp] 177);have p0:=aE.new w 177 #[.int .i64 sp,.int .i64 lp];obtain⟨w1,jJ⟩:∃w1,w.alloc (.cells #[.int .i64 sp,.int .i64 lp] 177)=w1:=⟨_,rfl⟩;rw[jJ]at aJ p0;rw[hz]at p0;have xN:w1.heap.size=z+1:=by rw[<-jJ,eJ,hz]
 have SR:aK (w1.alloc (.cells #[.string a,.string b] 9)) 9 1 (.slice (some ⟨w1.heap.size,0,none⟩) 2 2) 2 (nQ [a,b]):=⟨rfl,.inr ⟨w1.heap.size,2,[],rfl,aE.new _ _ _,rfl,by decide⟩⟩;have HB:=xh (au aJ (ae (Below.refl w1.heap.size w1) (.cells #[.string a,.string b] 9)));have KM:=xh (Hm (w:=w1.alloc (.cells #[.string a,.string b] 9)) sb sp lp SR (by omega));rw[xN,h2]at KM;have x0:=p0.ab (i:=0) rfl;have x1:=p0.ab (i:=1) rfl;clear aJ p0 SR h2 tC
 subst jJ;go_enter func41,ntmps41;go_wp2_with fail;refine KM.o.mono ?_;rintro e w4 ⟨rfl,hb⟩;have O4:=xh (au HB.o hb);clear hb x0 x1;go_wp2_with fail;go_ret2;exact aC O4.o
theorem wO(sb:Nat)(r:ByteArray)(hr:30<r.size)(w:World):Calls prog 38 #[.pointer (some ⟨sb,0,none⟩),.string r] w λe w'=>e=.returned (.tuple #[.int .i64 0,.int .i64 2])/\Below w.heap.size w w':=by
 have KC:=xh (Mu sb 7 0 r (by unfold Bb;rw[if_neg (by omega),if_neg (by simp;omega)];simp) w);go_enter func38,ntmps38;go_wp2_with fail;refine KC.o.mono ?_;rintro e w1 ⟨rfl,hb⟩;have HB:=xh hb;clear hb;go_wp2_with fail;go_ret2;exact aC HB.o
theorem sadd_no(sb:Nat)(r:ByteArray)(m:Int)(hr:30<r.size)(w:World):Calls prog 37 #[.pointer (some ⟨sb,0,none⟩),.string r,.int .i64 m] w λe w'=>e=.returned (.tuple #[.int .i64 0,.int .i64 2])/\Below w.heap.size w w':=by
 have KC:=xh (wO sb r hr w);go_enter func37,ntmps37;go_wp2_with fail;refine KC.o.mono ?_;rintro e w1 ⟨rfl,hb⟩;have HB:=xh hb;clear hb;go_wp2_with fail;go_ret2;exact aC HB.o
variable{w:World}{sb tb n K:Nat}{I:Ix}{F:List Nat}{fr:Bool}
def is8(g:ByteArray×Int):Prop:=g.2=0->g.1.size=8
instance(g:ByteArray×Int):Decidable (is8 g):=by unfold is8;exact inferInstance
def E3(g:ByteArray×Int):Int×Int:=if is8 g then xi g else(0,14)
def QS.jW(q:QS)(name:ByteArray):QS×Int×Int:=((q.eQ (eF name)).1,E3 (q.eQ (eF name)).2)
def QS.Lb(q:QS)(name:ByteArray)(n:Int):QS×Int×Int:=if is8 (q.eQ (eF name)).2 then q.rC name n else((q.eQ (eF name)).1,0,14)
theorem left_no(s:ByteArray)(w:World)(h:s.size<8):Calls prog 186 #[.string s,.int .i64 0,.int .i64 8] w λe w'=>e=.returned (.int .i64 5)/\Below w.heap.size w w':=by
 have a2:¬(s.size:Int)<0:=by omega
 have a3:IntKind.i64.wrap ((s.size:Int)-0)=(s.size:Int):=by rw[Int.sub_zero];exact IntWalk.i64_in _ (by omega)
 have a5:IntKind.i64.wrap (s.size:Int)=(s.size:Int):=IntWalk.i64_in _ (by omega);have a4:(s.size:Int)<8:=by omega
 go_enter func186,ntmps186;go_wp2_with fail;go_ret;exact⟨rfl,Below.refl _ _⟩
theorem Uz(s:ByteArray)(w:World)(h:s.size<8):Calls prog 142 #[.string s,.int .i64 0] w λe w'=>e=.returned (.tuple #[.int .u64 0,.int .i64 0,.int .i64 5])/\Below w.heap.size w w':=by
 have KL:=xh (left_no s w h);go_enter func142,ntmps142;go_wp2_with fail;refine KL.o.mono ?_;rintro e w1 ⟨rfl,aJ⟩;have O1:=xh aJ;clear aJ;go_wp2_with fail
 go_ret3
 exact⟨rfl,O1.o⟩
theorem UA(s:ByteArray)(w:World)(h:s.size<8):Calls prog 89 #[.string s,.int .i64 0] w λe w'=>e=.returned (.tuple #[.int .i64 0,.int .i64 0,.int .i64 5])/\Below w.heap.size w w':=by
 have KL:=xh (Uz s w h);go_enter func89,ntmps89;go_wp2_with fail;refine KL.o.mono ?_;rintro e w1 ⟨rfl,aJ⟩;have O1:=xh aJ;clear aJ;go_wp2_with fail
 go_ret3
 exact⟨rfl,O1.o⟩
theorem rL{q:QS}(B:aE w sb 182 #[tp tb,pp I.pb,.bool fr])(T:TQ w tb I F q n K)(hK:K<=999998000000)(r:ByteArray)(hr:r.size<=30)(mM:(q.eQ (eF r)).2.1.size<=1000000):
  Calls prog 38 #[.pointer (some ⟨sb,0,none⟩),.string r] w λe w'=>e=.returned (.tuple #[.int .i64 (q.jW r).2.1,.int .i64 (q.jW r).2.2])/\PQ w' I F (q.jW r).1 n (K+21)/\ag F w w':=by
 by_cases h8:is8 (q.eQ (eF r)).2
 .have e:q.jW r=q.cF r:=by unfold QS.jW QS.cF E3;rw[if_pos h8]
  rw[e];exact lF B T (by omega) r hr h8
 have KG:=qf B T (by omega) 7 0 (by omega) (by omega) r hr;unfold QS.jW E3;rw[if_neg h8];rw[show aD 7 0++r=eF r from rfl]at KG;obtain⟨R,hR⟩:∃R,q.eQ (eF r)=R:=⟨_,rfl⟩;rw[hR]at KG h8 mM ⊢;obtain⟨q1,b,e1⟩:=R;dsimp only at KG h8 mM ⊢;have Qc:e1=0:=Classical.byContradiction λh=>h8 λh'=>absurd h' h;subst Qc;have xF:b.size≠8:=λh=>h8 λ_=>h;have KG:=xh KG;clear hR B T h8
 by_cases dV:b.size<8
 .have KR:=xh (λ(W:World)=>UA b W dV);go_enter func38,ntmps38;go_wp2_with fail;refine KG.o.mono ?_;rintro e w1 ⟨rfl,H1⟩;have H1:=xh H1;go_wp2_with fail;refine(KR.o _).mono ?_;rintro e w2 ⟨rfl,hb⟩;have H2:=xh (show PQ w2 I F q1 n (K+21)/\ag F w w2 from⟨H1.o.1.below hb,H1.o.2.trans (.ai hb)⟩);clear hb;go_wp2_with fail;go_ret2;exact aC H2.o
 .have KR:=xh (λ(W:World)=>qG b 0 W (by omega) mM);have hgt:(8:Int)<((b.size:Nat):Int):=by omega
  generalize (lJ (b.extract 0 (0+8)).data.toList:Int)-9223372036854775808=cv at *;go_enter func38,ntmps38;go_wp2_with fail;refine KG.o.mono ?_;rintro e w1 ⟨rfl,H1⟩;have H1:=xh H1;go_wp2_with fail;refine(KR.o _).mono ?_;rintro e w2 ⟨rfl,hb⟩;have H2:=xh (show PQ w2 I F q1 n (K+21)/\ag F w w2 from⟨H1.o.1.below hb,H1.o.2.trans (.ai hb)⟩);clear hb;go_wp2_with fail;go_ret2;exact aC H2.o
theorem Pz{q:QS}(B:aE w sb 182 #[tp tb,pp I.pb,.bool fr])(T:TQ w tb I F q n K)(hK:K<=999998000000)(r:ByteArray)(hr:r.size<=30)(mM:(q.eQ (eF r)).2.1.size<=1000000)(m:Int):
  Calls prog 37 #[.pointer (some ⟨sb,0,none⟩),.string r,.int .i64 m] w λe w'=>e=.returned (.tuple #[.int .i64 (q.Lb r m).2.1,.int .i64 (q.Lb r m).2.2])/\PT w w' I F (q.Lb r m).1 n (K+200):=by
 unfold QS.Lb
 by_cases h8:is8 (q.eQ (eF r)).2
 .rw[if_pos h8];exact Ae B T hK r hr h8 m
 rw[if_neg h8];have KC:=rL B T hK r hr mM;unfold QS.jW E3 at KC;rw[if_neg h8]at KC;dsimp only at KC ⊢;have KC:=xh KC;clear B T h8;go_enter func37,ntmps37;go_wp2_with fail;refine KC.o.mono ?_;rintro e w1 ⟨rfl,p1,o1⟩;have H1:=xh (show PT w w1 I F (q.eQ (eF r)).1 n (K+200)from .self (p1.le (by omega)) o1);clear p1 o1;go_wp2_with fail;go_ret2;exact aC H1.o
attribute [local go_sem ↓] bq
variable{w:World}{xb n c:Nat}{A:Option Addr}
abbrev Pt:=Int×Int×Nat
def Fg(l:List Pt):List Value:=l.flatMap λx=>[.int .i64 x.1,.int .i64 x.2.1,.pointer (some ⟨x.2.2,0,none⟩)]
theorem my:∀l:List Pt,(Fg l).length=l.length*3
 |[]=>rfl
 |x::l=>by unfold Fg;rw[gS,aQ];have:=my l;unfold Fg at this;rw[this];simp;omega
theorem ptc_app(a b:List Pt):Fg (a++b)=Fg a++Fg b:=by simp[Fg]
theorem Mv(l:List Pt):∀u∈Fg l,u.oneCell'=true:=λu hu=>by
 unfold Fg at hu;obtain⟨x,_,hx⟩:=lq.1 hu;simp only[ar,gC,or_false]at hx
 rcases hx with rfl|rfl|rfl<;>rfl
theorem UB:∀(l:List Pt) (i:Nat) (x:Pt),l[i]?=some x->(Fg l)[i*3]?=some (.int .i64 x.1)/\(Fg l)[i*3+1]?=some (.int .i64 x.2.1)/\(Fg l)[i*3+1+1]?=some (.pointer (some ⟨x.2.2,0,none⟩))
 |[],_,_,h=>by simp at h
 |y::l,0,x,h=>by
  simp only[rR,Option.some.injEq]at h;subst h;exact⟨rfl,rfl,rfl⟩
 |y::l,i+1,x,h=>by
  rw[pA]at h;have:=UB l i x h;have e:Fg (y::l)=[.int .i64 y.1,.int .i64 y.2.1,.pointer (some ⟨y.2.2,0,none⟩)]++Fg l:=rfl;rw[e,dE (by simp;omega),dE (by simp;omega),dE (by simp;omega)]
  rw[show(i+1)*3-[Value.int .i64 y.1,.int .i64 y.2.1,.pointer (some ⟨y.2.2,0,none⟩)].length=i*3 by simp;omega,show(i+1)*3+1-[Value.int .i64 y.1,.int .i64 y.2.1,.pointer (some ⟨y.2.2,0,none⟩)].length=i*3+1 by simp;omega,show(i+1)*3+1+1-[Value.int .i64 y.1,.int .i64 y.2.1,.pointer (some ⟨y.2.2,0,none⟩)].length=i*3+1+1 by simp;omega];exact this
structure RX(w:World)(xb:Nat)(A:Option Addr)(n c:Nat)(ps:List Pt):Prop where
 b:aE w xb 88 #[.slice A n c]
 s:aK w 103 3 (.slice A n c) n (Fg ps)
theorem RX.len{ps:List Pt}(h:RX w xb A n c ps):ps.length=n:=by
 have:=h.s.1;rw[my]at this;omega
theorem RX.below{w':World}{ps:List Pt}(h:RX w xb A n c ps)(hb:Below w.heap.size w w'):RX w' xb A n c ps:=⟨h.b.below hb h.b.lt,h.s.below hb⟩
theorem RX.at{ps:List Pt}(h:RX w xb A n c ps){i:Nat}(hi:i<n):∃g x,A=some ⟨g,0,none⟩/\ps[i]?=some x/\n<=c/\c<=maxLen/\w.cell? ⟨g,i*3,none⟩=some (.int .i64 x.1)/\w.cell? ⟨g,i*3+1,none⟩=some (.int .i64 x.2.1)/\w.cell? ⟨g,i*3+1+1,none⟩=some (.pointer (some ⟨x.2.2,0,none⟩)):=by
 have hl:=h.len;obtain⟨g,cap,rest,hv,B,hc,hr⟩:=h.s.form (by omega) (by omega);injection hv with e1 e2 e3
 subst e1;obtain⟨x,hx⟩:∃x,ps[i]?=some x:=⟨_,aT (by omega)⟩;obtain⟨p1,p2,p3⟩:=UB _ _ _ hx;have uj:c<=maxLen:=by obtain⟨_,_,_,_,h⟩:=h.s.rp;exact h
 refine⟨g,x,rfl,hx,by omega,uj,?_,?_,?_⟩
 .exact B.ab (by rw[cM,bD (by rw[my];omega)];exact p1)
 .exact B.ab (by rw[cM,bD (by rw[my];omega)];exact p2)
 .exact B.ab (by rw[cM,bD (by rw[my];omega)];exact p3)
theorem Mw:(prog.info? 103).map (λi=>(i.zero,i.size,i.bytes))=some (some (.agg #[.int .i64 0,.int .i64 0,.pointer none]),3,24):=by kernel_rfl
structure MO(w W:World)(xb:Nat)(A:Option Addr)(n c:Nat)(ps:List Pt)(y:Pt)(ze pe:Option Nat)(ve:Option Value):Prop where
 h:RX W xb A n c ps
 o:ag [xb] w W
 s:∀g∈ah (.slice A n c),g<w.heap.size
 b:xb<w.heap.size
 z:∀b,ze=some b->aK W 103 3 (.slice (some ⟨b,0,none⟩) 0 0) 0 []/\w.heap.size<=b/\∀p,pe=some p->b≠p
 p:∀p,pe=some p->aK W 103 3 (.slice (some ⟨p,0,none⟩) 1 1) 1 (Fg [y])/\w.heap.size<=p
 v:∀V,ve=some V->aK W 103 3 V n (Fg ps)/\∀g∈ah V,w.heap.size<=g
section
variable{w W:World}{xb:Nat}{A:Option Addr}{n c:Nat}{ps:List Pt}{y:Pt}{ze pe:Option Nat}{ve:Option Value}
theorem MO.m0(H:MO w W xb A n c ps y ze pe ve):W.cell? ⟨xb,0,none⟩=some (.slice A n c):=H.h.b.ab (i:=0) rfl
theorem MO.below(H:MO w W xb A n c ps y ze pe ve){W':World}(hb:Below W.heap.size W W'):MO w W' xb A n c ps y ze pe ve:=
 ⟨H.h.below hb,H.o.trans (.ai hb),H.s,H.b,λb h=>⟨(H.z b h).1.below hb,(H.z b h).2⟩,λp h=>⟨(H.p p h).1.below hb,(H.p p h).2⟩,λV h=>⟨(H.v V h).1.below hb,(H.v V h).2⟩⟩
theorem MO.drew(H:MO w W xb A n c ps y ze pe ve):MO w W.drew xb A n c ps y ze pe ve:=H.below (Below.refl _ _).drew
theorem MO.zero(H:MO w W xb A n c ps y none pe ve):MO w (W.alloc (.cells #[] 103)) xb A n c ps y (some W.heap.size) pe ve:=by
 have H':=H.below (ae (Below.refl _ _) (.cells #[] 103));refine⟨H'.h,H'.o,H'.s,H'.b,λb hb=>?_,H'.p,H'.v⟩;injection hb with hb
 subst hb;exact⟨⟨rfl,.inr ⟨_,0,[],rfl,aE.new W _ #[],rfl,by unfold maxLen;omega⟩⟩,H.o.size,λp hp e=>by have:=(H.p p hp).1.lt p (by simp[ah]);omega⟩
theorem MO.one(H:MO w W xb A n c ps y ze none ve):MO w (W.alloc (.cells #[.int .i64 y.1,.int .i64 y.2.1,.pointer (some ⟨y.2.2,0,none⟩)] 103)) xb A n c ps y ze (some W.heap.size) ve:=by
 have H':=H.below (ae (Below.refl _ _) (.cells #[.int .i64 y.1,.int .i64 y.2.1,.pointer (some ⟨y.2.2,0,none⟩)] 103));refine⟨H'.h,H'.o,H'.s,H'.b,λb hb=>⟨(H'.z b hb).1,(H'.z b hb).2.1,λp hp e=>?_⟩,λp hp=>?_,H'.v⟩
 .injection hp with hp
  have:=(H.z b hb).1.lt b (by simp[ah]);omega
 .injection hp with hp
  subst hp;exact⟨⟨rfl,.inr ⟨_,1,[],rfl,aE.new W _ _,rfl,by decide⟩⟩,H.o.size⟩
theorem MO.app{b:Nat}(H:MO w W xb A n c ps y (some b) pe none)(hn:n<=1000000):
  ∃V c2 W',df prog 86 86 W (.slice (some ⟨b,0,none⟩) 0 0) (.slice A n c)= .ok (.slice V n c2) W'/\MO w W' xb A n c ps y none pe (some (.slice V n c2)):=by
 obtain⟨S0,hb,hbp⟩:=H.z b rfl;obtain⟨v2,w2,ea,S2,o2,f2⟩:=pC (P:=prog) S0 H.h.s 86 86 _ 24 underlying86 Mw rfl (by omega) (Mv _) (by unfold maxLen;omega) (by omega);rw[bh,cX]at S2;obtain⟨V2,c2,rfl⟩:=ao S2;have hd:∀x∈ah (.slice (some ⟨b,0,none⟩) 0 0),x=b:=λx hx=>by simpa [ah]using hx
 have hs:∀g∈ah (.slice A n c),g∉ah (.slice (some ⟨b,0,none⟩) 0 0):=λg hg hx=>by have:=hd g hx;have:=H.s g hg;omega
 refine⟨V2,c2,w2,ea,⟨⟨H.h.b.only o2 (λhx=>by have:=hd _ hx;have:=H.b;omega),H.h.s.only o2 hs⟩,H.o.aN o2 (λx hx dV=>by have:=hd x hx;omega),H.s,H.b,(λ_ h=>by cases h),λp hp=>⟨(H.p p hp).1.only o2 (λg hg hx=>by have h1:=hd g hx;have h2:=hbp p hp;simp[ah]at hg;omega),(H.p p hp).2⟩,λV hV=>?_⟩⟩;injection hV with hV
 subst hV;exact⟨S2,λg hg=>(f2 g hg).elim (λh=>by have:=hd g h;omega) (λh=>ay H.o.size h)⟩
theorem MO.Be{V:Option Addr}{c2 p:Nat}(H:MO w W xb A n c ps y none (some p) (some (.slice V n c2)))(hn:n<=1000000):
  ∃V' c' W',df prog 86 86 W (.slice V n c2) (.slice (some ⟨p,0,none⟩) 1 1)= .ok (.slice V' (n+1) c') W'/\RX W' xb A n c ps/\ag [xb] w W'/\aK W' 103 3 (.slice V' (n+1) c') (n+1) (Fg (ps++[y]))/\∀g∈ah (.slice V' (n+1) c'),w.heap.size<=g:=by
 obtain⟨S2,f2⟩:=H.v _ rfl;obtain⟨v3,w3,ea,S3,o3,f3⟩:=pC (P:=prog) S2 (H.p p rfl).1 86 86 _ 24 underlying86 Mw rfl (by omega) (Mv _) (by unfold maxLen;omega) (by omega);obtain⟨V3,c3,rfl⟩:=ao S3
 refine⟨V3,c3,w3,ea,⟨H.h.b.only o3 (λhx=>by have:=f2 _ hx;have:=H.b;omega),H.h.s.only o3 (λg hg hx=>by have:=f2 g hx;have:=H.s g hg;omega)⟩,H.o.aN o3 (λx hx dV=>by have:=f2 x hx;omega),?_,λg hg=>(f3 g hg).elim (f2 g) (λh=>ay H.o.size h)⟩;rw[ptc_app];exact S3
end
theorem lY(s l:Int){rs:List ByteArray}(S:aK w 9 1 (.slice A n c) n (nQ rs))(hn:n<=100):
  Calls prog 92 #[.int .i64 s,.int .i64 l,.slice A n c] w λe w'=>e=.returned (.bool (decide (0<=s/\s<=7/\0<=l/\l<=5/\∀r∈rs,r.size<=30)))/\Below w.heap.size w w':=by
 have oU:rs.length=n:=by have:=S.1;simp[nQ]at this;omega
 have HL:=xh oU;have H0:=xh S;obtain⟨res,AJ⟩:∃res,decide (0<=s/\s<=7/\0<=l/\l<=5/\∀r∈rs,r.size<=30)=res:=⟨_,rfl⟩;have HR:=xh AJ;rw[AJ];clear S oU AJ;go_enter func92,ntmps92;go_wp2_with fail
 go_loopw [7] (λiv wr=> ∃i:Nat,i<=n/\iv=.int .i64 (i:Nat)/\Hid (∀r∈rs.take i,r.size<=30)/\Below w.heap.size w wr) (λiv _=>n-(intOf iv).toNat)
 case atStart=>exact⟨0,bm _,rfl,xh (by simp),Below.refl _ _⟩
 case round=>
  obtain⟨i,hi,rfl,HS,O⟩:=hrel
  by_cases h:i<n
  .have hI:(i:Int)<(n:Int):=by omega
   have S2:=H0.o.below O;obtain⟨g,cap,rest,hv,B,hc,jX⟩:=S2.form (by omega) (by omega);injection hv with e1 e2 e3
   subst e1 e3;obtain⟨r,hx⟩:∃r,rs[i]?=some r:=⟨_,aT (by rw[HL.o];exact h)⟩;have xc:wr.cell? ⟨g,i,none⟩=some (.string r):=B.ab (by
    rw[cM,bD (by simp[nQ];rw[HL.o];exact h)];simp[nQ,hx])
   by_cases gQ:r.size<=30
   .have hrI:¬(30:Int)<(r.size:Int):=by omega
    have HO:=xh O;have ei:IntKind.i64.wrap ((i:Int)+1)=((i+1:Nat):Int):=IntWalk.i64_in _ (by omega);have vU:=xh (show ∀r∈rs.take (i+1),r.size<=30 from λy hy=>by
     rw[kD,hx]at hy
     rcases az.1 hy with hy|hy
     .exact HS.o y hy
     .simp at hy;rw[hy];exact gQ)
    clear S2 B jX O hx gQ;go_wp2_with fail;go_roundw
    case rel=>exact⟨i+1,by omega,by go_num,vU,HO.o⟩
    case measure=>simp[intOf];omega
   .have hrI:(30:Int)<(r.size:Int):=by omega
    have h2:res=false:=by
     rw[<-HR.o];exact decide_eq_false λiV=>gQ (iV.2.2.2.2 r (aA hx))
    subst h2;have HO:=xh O;clear S2 B jX O hx gQ;go_wp2_with fail;go_ret;exact aC HO.o
  .have hI:¬(i:Int)<(n:Int):=by omega
   have iV:∀r∈rs,r.size<=30:=by
    have hs:=HS.o
    rwa [bY (by rw[HL.o];omega)]at hs
   have HO:=xh O;clear O
   by_cases n1:0<=s
   .by_cases n2:s<=7
    .by_cases n3:0<=l
     .by_cases n4:l<=5
      .have h2:res=true:=by rw[<-HR.o];exact decide_eq_true ⟨n1,n2,n3,n4,iV⟩
       subst h2;clear iV;go_wp2_with fail;go_ret;exact aC HO.o
      .have h2:res=false:=by rw[<-HR.o];exact decide_eq_false λh=>n4 h.2.2.2.1
       subst h2;clear iV;go_wp2_with fail;go_ret;exact aC HO.o
     .have h2:res=false:=by rw[<-HR.o];exact decide_eq_false λh=>n3 h.2.2.1
      subst h2;clear iV;go_wp2_with fail;go_ret;exact aC HO.o
    .have h2:res=false:=by rw[<-HR.o];exact decide_eq_false λh=>n2 h.2.1
     subst h2;clear iV;go_wp2_with fail;go_ret;exact aC HO.o
   .have h2:res=false:=by rw[<-HR.o];exact decide_eq_false λh=>n1 h.1
    subst h2;clear iV;go_wp2_with fail;go_ret;exact aC HO.o
def OfP(w w':World)(xb:Nat)(ps:List Pt)(sp lp:Int)(mb:Nat):Prop:=
 ((sp,lp,mb)∈ps/\Below w.heap.size w w')\/((∀p∈ps,¬(p.1=sp/\p.2.1=lp))/\w.heap.size<=mb/\aE w' mb 45 #[.slice none 0 0]/\ag [xb] w w'/\∃A n c,RX w' xb A n c (ps++[(sp,lp,mb)])/\∀g∈ah (.slice A n c),w.heap.size<=g)
theorem UC{ps:List Pt}(h:RX w xb A n c ps)(hn:n<=100000)(sp lp:Int):
  Calls prog 93 #[.pointer (some ⟨xb,0,none⟩),.int .i64 sp,.int .i64 lp] w λe w'=> ∃mb,e=.returned (.pointer (some ⟨mb,0,none⟩))/\OfP w w' xb ps sp lp mb:=by
 have x0:=h.b.ab (i:=0) rfl;have HX:=xh h;have HN:=xh hn;clear h;go_enter func93,ntmps93;go_wp2_with fail
 go_loopw [7] (λiv wr=> ∃i:Nat,i<=n/\iv=.int .i64 (i:Nat)/\wr=w/\Hid (∀p∈ps.take i,¬(p.1=sp/\p.2.1=lp))) (λiv _=>n-(intOf iv).toNat)
 case atStart=>exact⟨0,bm _,rfl,rfl,xh (by simp)⟩
 case round=>
  obtain⟨i,hi,rfl,rfl,HS⟩:=hrel
  by_cases h:i<n
  .have hI:(i:Int)<(n:Int):=by omega
   obtain⟨g,x,rfl,hx,hc,uj,c0,c1,c2⟩:=HX.o.at h;have ei:IntKind.i64.wrap ((i:Int)+1)=((i+1:Nat):Int):=IntWalk.i64_in _ (by omega);obtain⟨xs,xl,xm⟩:=x;dsimp only at c0 c1 c2
   by_cases h1:xs=sp
   .by_cases h2:xl=lp
    .subst h1;subst h2;have H9:=xh (show OfP wr wr xb ps xs xl xm from .inl ⟨aA hx,Below.refl _ _⟩);clear hx;go_wp2_with fail;go_ret;exact⟨xm,by first|rfl|simp,H9.o⟩
    .have vU:=xh (show ∀p∈ps.take (i+1),¬(p.1=sp/\p.2.1=lp)from λp hp=>by
      rw[kD,hx]at hp
      rcases az.1 hp with hp|hp
      .exact HS.o p hp
      .simp at hp;subst hp;exact λh=>h2 h.2)
     clear hx;go_wp2_with fail;go_roundw
     case rel=>exact⟨i+1,by omega,by go_num,by first|rfl|trivial,vU⟩
     case measure=>simp[intOf];omega
   .have vU:=xh (show ∀p∈ps.take (i+1),¬(p.1=sp/\p.2.1=lp)from λp hp=>by
     rw[kD,hx]at hp
     rcases az.1 hp with hp|hp
     .exact HS.o p hp
     .simp at hp;subst hp;exact λh=>h1 h.1)
    clear hx;go_wp2_with fail;go_roundw
    case rel=>exact⟨i+1,by omega,by go_num,by first|rfl|trivial,vU⟩
    case measure=>simp[intOf];omega
  .have hI:¬(i:Int)<(n:Int):=by omega
   have tC:∀p∈ps,¬(p.1=sp/\p.2.1=lp):=by
    have hs:=HS.o
    rwa [bY (by rw[HX.o.len];omega)]at hs
   have LP:=xh tC;clear tC
   go_upto_region 7 with fail
   obtain⟨w1,jJ⟩:∃w1,wr.alloc (.cells #[.slice none 0 0] 45)=w1:=⟨_,rfl⟩;obtain⟨mb,hmb⟩:∃mb,wr.heap.size=mb:=⟨_,rfl⟩;have xN:w1.heap.size=mb+1:=by rw[<-jJ,eJ,hmb]
   have hbw:=ae (Below.refl wr.heap.size wr) (.cells #[.slice none 0 0] 45);have M1:=aE.new wr 45 #[.slice none 0 0];rw[jJ]at hbw M1 ⊢;rw[hmb]at M1 ⊢;obtain⟨w2,xH⟩:∃w2,w1.alloc (.cells #[.int .i64 sp,.int .i64 lp,.pointer (some ⟨mb,0,none⟩)] 103)=w2:=⟨_,rfl⟩;have UD:=au hbw (ae (Below.refl w1.heap.size w1) (.cells #[.int .i64 sp,.int .i64 lp,.pointer (some ⟨mb,0,none⟩)] 103));have M2:=M1.alloc (.cells #[.int .i64 sp,.int .i64 lp,.pointer (some ⟨mb,0,none⟩)] 103)
   have B8:=aE.new w1 103 #[.int .i64 sp,.int .i64 lp,.pointer (some ⟨mb,0,none⟩)];rw[xN]at B8;rw[xH]at UD M2 B8 ⊢;have hxb:=HX.o.b.lt;have AK:=HX.o.s.lt;have hbs:=UD.size;have H0:=xh (show MO w2 w2 xb A n c ps (sp,lp,mb) none none none from⟨HX.o.below UD,ag.refl _ _,λg hg=>by have:=AK g hg;omega,by omega,(λ_ h=>by cases h),(λ_ h=>by cases h),(λ_ h=>by cases h)⟩);have B8:=xh B8
   have KP:=xh (show ∀(W:World) (ze pe:Option Nat) (ve:Option Value),MO w2 W xb A n c ps (sp,lp,mb) ze pe ve->W.cell? ⟨xb,0,none⟩=some (.slice A n c)/\W.cell? ⟨mb+1,0,none⟩=some (.int .i64 sp)/\W.cell? ⟨mb+1,1,none⟩=some (.int .i64 lp)/\W.cell? ⟨mb+1,2,none⟩=some (.pointer (some ⟨mb,0,none⟩))from λW ze pe ve H=>by
    have B:=B8.o.only H.o (by simp;omega);exact⟨H.m0,B.ab (i:=0) rfl,B.ab (i:=1) rfl,B.ab (i:=2) rfl⟩)
   have KQ:=xh (show ∀(W:World),RX W xb A n c ps->ag [xb] w2 W->W.cell? ⟨xb,0,none⟩=some (.slice A n c)/\W.cell? ⟨mb+1,0,none⟩=some (.int .i64 sp)/\W.cell? ⟨mb+1,1,none⟩=some (.int .i64 lp)/\W.cell? ⟨mb+1,2,none⟩=some (.pointer (some ⟨mb,0,none⟩))from λW X ho=>by
    have B:=B8.o.only ho (by simp;omega);exact⟨X.b.ab (i:=0) rfl,B.ab (i:=0) rfl,B.ab (i:=1) rfl,B.ab (i:=2) rfl⟩)
   have M2:=xh M2;have HW:=xh (And.intro UD (And.intro hxb hmb));clear jJ hbw UD M1 hxb AK hbs xH x0;refine oQ (S:=λW=>W.cell? ⟨xb,0,none⟩=some (.slice A n c)/\W.cell? ⟨mb+1,0,none⟩=some (.int .i64 sp)/\W.cell? ⟨mb+1,1,none⟩=some (.int .i64 lp)/\W.cell? ⟨mb+1,2,none⟩=some (.pointer (some ⟨mb,0,none⟩))) 12 (by kernel_rfl) (KP.o _ _ _ _ H0.o.drew) (λaq=>?_);refine cV [(0,53),(2,55),(3,56),(4,57),(5,58),(7,60)] ?_
   iterate 6 refine fW ?_
   refine kx (rs:=[1,8]) (by kernel_rfl) (by simp) ?_;refine eS.cons (λK hK=>?_) (eS.cons (λK hK=>?_) eS.nil)
   .skip
    have H1:=xh H0.o.zero;go_simp;refine aW hK (λ_=>KP.o _ _ _ _ H1.o.drew) (λaq=>?_);refine kx (rs:=[6,8]) (by kernel_rfl) (by simp) ?_;refine eS.cons (λK hK=>?_) (eS.cons (λK hK=>?_) eS.nil)
    .skip
     obtain⟨V2,c2,w3,ea,hq⟩:=H1.o.drew.app (by have:=HN.o;omega)
     try simp only[eJ]at ea
     have H2:=xh hq;clear hq;go_simp;clear ea;refine aW hK (λ_=>KP.o _ _ _ _ H2.o) (λaq=>?_);refine bx 8 λK hK=>?_;have H3:=xh H2.o.one;go_simp;refine aW hK (λ_=>KP.o _ _ _ _ H3.o) (λaq=>?_);obtain⟨V3,c3,w4,CM,M3,o3,S3,f3⟩:=H3.o.Be (by have:=HN.o;omega)
     try simp only[eJ]at CM
     have y3:=KQ.o w4 M3 o3;have z3:=M3.b.frozen 0 (by simp);have M3:=xh M3;have o3:=xh o3;have S3:=xh S3;have f3:=xh f3;refine bx 9 λK hK=>?_;go_simp;refine aW hK (λ_=>y3) (λaq=>?_);refine bx 10 λK hK=>?_;go_simp;refine aW hK (λ_=>y3) (λaq=>?_);refine cV [(11,64)] ?_
     iterate 1 refine fW ?_
     refine bx 12 λK hK=>?_;go_simp;refine aW hK (λh=>absurd rfl h) (λaq=>?_);refine jc (by kernel_rfl) ?_ _;have B9:=xh (M3.o.b.bG 0 (.slice V3 (n+1) c3));have U9:=(ag.refl [xb] w4).setCell (p:=⟨xb,0,none⟩) (λ_=>by simp) (.slice V3 (n+1) c3);have O9:=xh (o3.o.trans U9);have S9:=xh (S3.o.only U9 (λg hg hm=>by have:=f3.o g hg;have:=HW.o.2.1;have:=HW.o.1.size;have:=aP.1 hm;omega));have K9:=KQ.o w4 M3.o o3.o
     have q2:=(B8.o.only O9.o (by have:=HW.o.2;simp;omega)).ab (i:=2) rfl;have HF:=xh (show OfP wr _ xb ps sp lp mb from .inr ⟨LP.o,by rw[<-HW.o.2.2];exact aj _,M2.o.only O9.o (by have:=HW.o.2;simp;omega),(ag.ai HW.o.1).trans O9.o,V3,n+1,c3,⟨B9.o,S9.o⟩,λg hg=>ay HW.o.1.size (f3.o g hg)⟩);clear U9 K9;go_wp2_with fail;go_ret;exact⟨mb,by first|rfl|simp,HF.o⟩
    .skip
     have H2:=xh H1.o.one;go_simp;refine aW hK (λ_=>KP.o _ _ _ _ H2.o.drew) (λaq=>?_);refine bx 6 λK hK=>?_;obtain⟨V2,c2,w3,ea,hq⟩:=H2.o.drew.app (by have:=HN.o;omega)
     try simp only[eJ]at ea
     have H3:=xh hq;clear hq;go_simp;clear ea;refine aW hK (λ_=>KP.o _ _ _ _ H3.o) (λaq=>?_);obtain⟨V3,c3,w4,CM,M3,o3,S3,f3⟩:=H3.o.Be (by have:=HN.o;omega)
     try simp only[eJ]at CM
     have y3:=KQ.o w4 M3 o3;have z3:=M3.b.frozen 0 (by simp);have M3:=xh M3;have o3:=xh o3;have S3:=xh S3;have f3:=xh f3;refine bx 9 λK hK=>?_;go_simp;refine aW hK (λ_=>y3) (λaq=>?_);refine bx 10 λK hK=>?_;go_simp;refine aW hK (λ_=>y3) (λaq=>?_);refine cV [(11,64)] ?_
     iterate 1 refine fW ?_
     refine bx 12 λK hK=>?_;go_simp;refine aW hK (λh=>absurd rfl h) (λaq=>?_);refine jc (by kernel_rfl) ?_ _;have B9:=xh (M3.o.b.bG 0 (.slice V3 (n+1) c3));have U9:=(ag.refl [xb] w4).setCell (p:=⟨xb,0,none⟩) (λ_=>by simp) (.slice V3 (n+1) c3);have O9:=xh (o3.o.trans U9);have S9:=xh (S3.o.only U9 (λg hg hm=>by have:=f3.o g hg;have:=HW.o.2.1;have:=HW.o.1.size;have:=aP.1 hm;omega));have K9:=KQ.o w4 M3.o o3.o
     have q2:=(B8.o.only O9.o (by have:=HW.o.2;simp;omega)).ab (i:=2) rfl;have HF:=xh (show OfP wr _ xb ps sp lp mb from .inr ⟨LP.o,by rw[<-HW.o.2.2];exact aj _,M2.o.only O9.o (by have:=HW.o.2;simp;omega),(ag.ai HW.o.1).trans O9.o,V3,n+1,c3,⟨B9.o,S9.o⟩,λg hg=>ay HW.o.1.size (f3.o g hg)⟩);clear U9 K9;go_wp2_with fail;go_ret;exact⟨mb,by first|rfl|simp,HF.o⟩
   .skip
    have H1:=xh H0.o.one;go_simp;refine aW hK (λ_=>KP.o _ _ _ _ H1.o.drew) (λaq=>?_);refine bx 1 λK hK=>?_;have H2:=xh H1.o.zero;go_simp;refine aW hK (λ_=>KP.o _ _ _ _ H2.o.drew) (λaq=>?_);refine bx 6 λK hK=>?_;obtain⟨V2,c2,w3,ea,hq⟩:=H2.o.drew.app (by have:=HN.o;omega)
    try simp only[eJ]at ea
    have H3:=xh hq;clear hq;go_simp;clear ea;refine aW hK (λ_=>KP.o _ _ _ _ H3.o) (λaq=>?_);obtain⟨V3,c3,w4,CM,M3,o3,S3,f3⟩:=H3.o.Be (by have:=HN.o;omega)
    try simp only[eJ]at CM
    have y3:=KQ.o w4 M3 o3;have z3:=M3.b.frozen 0 (by simp);have M3:=xh M3;have o3:=xh o3;have S3:=xh S3;have f3:=xh f3;refine bx 9 λK hK=>?_;go_simp;refine aW hK (λ_=>y3) (λaq=>?_);refine bx 10 λK hK=>?_;go_simp;refine aW hK (λ_=>y3) (λaq=>?_);refine cV [(11,64)] ?_
    iterate 1 refine fW ?_
    refine bx 12 λK hK=>?_;go_simp;refine aW hK (λh=>absurd rfl h) (λaq=>?_);refine jc (by kernel_rfl) ?_ _;have B9:=xh (M3.o.b.bG 0 (.slice V3 (n+1) c3));have U9:=(ag.refl [xb] w4).setCell (p:=⟨xb,0,none⟩) (λ_=>by simp) (.slice V3 (n+1) c3);have O9:=xh (o3.o.trans U9);have S9:=xh (S3.o.only U9 (λg hg hm=>by have:=f3.o g hg;have:=HW.o.2.1;have:=HW.o.1.size;have:=aP.1 hm;omega));have K9:=KQ.o w4 M3.o o3.o
    have q2:=(B8.o.only O9.o (by have:=HW.o.2;simp;omega)).ab (i:=2) rfl;have HF:=xh (show OfP wr _ xb ps sp lp mb from .inr ⟨LP.o,by rw[<-HW.o.2.2];exact aj _,M2.o.only O9.o (by have:=HW.o.2;simp;omega),(ag.ai HW.o.1).trans O9.o,V3,n+1,c3,⟨B9.o,S9.o⟩,λg hg=>ay HW.o.1.size (f3.o g hg)⟩);clear U9 K9;go_wp2_with fail;go_ret;exact⟨mb,by first|rfl|simp,HF.o⟩
end Sh
namespace Sh
open Go.RowKit Pk Dk Pg
attribute [local go_sem ↓] Go.wp_at_zero Go.wp_at_succ
variable{w:World}{t:TypeId}{sz m:Nat}{v:Value}{L:List Value}
theorem PQ.slcT{I:Ix}{F:List Nat}{q:QS}{n K:Nat}(h:PQ w I F q n K)(S:aK w t sz v m L)(ha:t≠143)(hb:t≠167)(h1:t≠146)(h2:t≠218)(h3:t≠3)(h4:t≠149)(h5:t≠152)(h6:t≠4)(h7:t≠231):∀g∈ah v,g∉F:=by
 rcases S.2 with⟨rfl,_⟩|⟨g,cap,rest,rfl,B,_⟩
 .intro g hg;simp[ah]at hg
 .intro g' hg;simp only[ah,aP]at hg;subst hg;exact h.fR B ha hb h1 h2 h3 h4 h5 h6 h7
theorem E4{t':TypeId}(S:aK w t sz v m L){b:Nat}{cs:Array Value}(B:aE w b t' cs)(h:t'≠t):∀g∈ah v,g≠b:=by
 rcases S.2 with⟨rfl,_⟩|⟨g,cap,rest,rfl,BB,_⟩
 .intro g hg;simp[ah]at hg
 .intro g' hg;simp only[ah,aP]at hg;subst hg;exact λe=>h ((e▸BB).inj B).1.symm
abbrev De:=Pt×List PR
structure DX(w:World)(z xb:Nat)(L:List De):Prop where
 x:∃A n c,RX w xb A n c (L.map λe=>e.1)
 m:∀e∈L,∃v,Mp w e.1.2.2 v e.2
 nd:(L.map λe=>e.1.2.2).Nodup
 ku:∀e∈L,∀e'∈L,e.1.1=e'.1.1->e.1.2.1=e'.1.2.1->e=e'
 k:L.length<=10000
 f:z<=xb/\∀e∈L,z<=e.1.2.2
section
variable{w w':World}{z xb:Nat}{L:List De}{I:Ix}{F:List Nat}{q:QS}{n K:Nat}
theorem DX.below(h:DX w z xb L)(hb:Below w.heap.size w w'):DX w' z xb L:=by
 obtain⟨A,n,c,X⟩:=h.x;exact⟨⟨A,n,c,X.below hb⟩,λe he=>(h.m e he).imp λv M=>M.below hb,h.nd,h.ku,h.k,h.f⟩
theorem DX.drew(h:DX w z xb L):DX w.drew z xb L:=h.below (Below.refl _ _).drew
theorem DX.pq(h:DX w z xb L)(P:PQ w I F q n K)(o:ag F w w'):DX w' z xb L:=by
 obtain⟨A,n,c,X⟩:=h.x;refine⟨⟨A,n,c,X.b.only o (P.fR X.b),X.s.only o (P.slcT X.s (by decide) (by decide) (by decide) (by decide) (by decide) (by decide) (by decide) (by decide) (by decide))⟩,λe he=>?_,h.nd,h.ku,h.k,h.f⟩;obtain⟨v,M⟩:=h.m e he;exact⟨v,M.b.only o (P.fR M.b),M.s.only o (P.slcT M.s (by decide) (by decide) (by decide) (by decide) (by decide) (by decide) (by decide) (by decide) (by decide)),M.n⟩
def qk(L:List De)(mb:Nat)(l:List PR):List De:=L.map λe=>if e.1.2.2=mb then(e.1,l)else e
theorem Hr(L:List De)(mb:Nat)(l:List PR):(qk L mb l).map (λe=>e.1)=L.map λe=>e.1:=by
 unfold qk;rw[jf];apply iK;intro e _;show(if e.1.2.2=mb then(e.1,l)else e).1=e.1
 split<;>rfl
theorem updL_mb(L:List De)(mb:Nat)(l:List PR):(qk L mb l).map (λe=>e.1.2.2)=L.map λe=>e.1.2.2:=by
 have:=congrArg (List.map λp:Pt=>p.2.2) (Hr L mb l);rw[jf,jf]at this;exact this
theorem DX.map(h:DX w z xb L){mb:Nat}{v':Value}{l l':List PR}{sp lp:Int}(he:((sp,lp,mb),l)∈L)(o:ag [mb] w w')(M:Mp w' mb v' l'):DX w' z xb (qk L mb l'):=by
 obtain⟨A,n,c,X⟩:=h.x;obtain⟨v0,M0⟩:=h.m _ he;refine⟨⟨A,n,c,?_,?_⟩,λe hm=>?_,by rw[updL_mb];exact h.nd,?_,by unfold qk;rw[fM];exact h.k,h.f.1,λe hm=>?_⟩
 .exact X.b.only o (λhx=>(X.b.lI M0.b (by decide)) (aP.1 hx))
 .rw[Hr];exact X.s.only o (λg hg hx=>E4 X.s M0.b (by decide) g hg (aP.1 hx))
 .unfold qk at hm;obtain⟨e0,h0,rfl⟩:=cg.1 hm
  by_cases hmb:e0.1.2.2=mb
  .rw[if_pos hmb];exact⟨v',by show Mp w' e0.1.2.2 v' l';rw[hmb];exact M⟩
  .rw[if_neg hmb];obtain⟨v,M1⟩:=h.m e0 h0;exact⟨v,M1.b.only o (by simpa using hmb),M1.s.only o (λg hg hx=>E4 M1.s M0.b (by decide) g hg (aP.1 hx)),M1.n⟩
 .intro e hm e' hm' h1 h2;unfold qk at hm hm';obtain⟨e0,h0,rfl⟩:=cg.1 hm;obtain⟨e1,h3,rfl⟩:=cg.1 hm';have k0:(if e0.1.2.2=mb then(e0.1,l')else e0).1=e0.1:=by split<;>rfl
  have k1:(if e1.1.2.2=mb then(e1.1,l')else e1).1=e1.1:=by split<;>rfl
  rw[k0,k1]at h1 h2;rw[h.ku e0 h0 e1 h3 h1 h2]
 .unfold qk at hm;obtain⟨e0,h0,rfl⟩:=cg.1 hm;have k0:(if e0.1.2.2=mb then(e0.1,l')else e0).1=e0.1:=by split<;>rfl
  rw[k0];exact h.f.2 e0 h0
def DOf(w w':World)(z xb:Nat)(L:List De)(sp lp:Int)(mb:Nat):Prop:=
 ∃l L',DX w' z xb L'/\((sp,lp,mb),l)∈L'/\(L'=L\/(L'=L++[((sp,lp,mb),[])]/\l=[]))/\ag [xb] w w'
theorem DX.of(h:DX w z xb L)(hk:L.length<10000)(hz:z<=w.heap.size)(sp lp:Int):
  Calls prog 93 #[.pointer (some ⟨xb,0,none⟩),.int .i64 sp,.int .i64 lp] w λe w'=> ∃mb,e=.returned (.pointer (some ⟨mb,0,none⟩))/\DOf w w' z xb L sp lp mb:=by
 obtain⟨A,n,c,X⟩:=h.x;have hl:=X.len;rw[fM]at hl;refine(UC X (by omega) sp lp).mono λe w' ⟨mb,r,hO⟩=>⟨mb,r,?_⟩
 rcases hO with⟨h1,h2⟩|⟨h1,h2,h3,h4,A',n',c',X',h5⟩
 .obtain⟨e0,h0,he⟩:=cg.1 h1;exact⟨e0.2,L,h.below h2,by rw[<-he];exact h0,.inl rfl,.ai h2⟩
 .have Ih:∀e∈L,e.1.2.2<w.heap.size:=λe he=>by obtain⟨v,M⟩:=h.m e he;exact M.b.lt
  refine⟨[],L++[((sp,lp,mb),[])],⟨⟨A',n',c',by rw[cW];exact X'⟩,λe he=>?_,?_,?_,by rw[aQ];simp;omega,h.f.1,λe he=>?_⟩,bF _ (by simp),.inr ⟨rfl,rfl⟩,h4⟩
  .rcases az.1 he with he|he
   .obtain⟨v,M⟩:=h.m e he;exact⟨v,M.b.only h4 (λhx=>(M.b.lI X.b (by decide)) (aP.1 hx)),M.s.only h4 (λg hg hx=>E4 M.s X.b (by decide) g hg (aP.1 hx)),M.n⟩
   .have:=aP.1 he;subst this;exact⟨.slice none 0 0,h3,aK.nil _ _ _,by simp⟩
  .rw[cW,gz];refine⟨h.nd,by simp,λa ha b hb=>?_⟩;obtain⟨e,he,rfl⟩:=cg.1 ha;have hb:=aP.1 hb;have dV:=Ih e he;have bS:b=mb:=hb;rw[bS];show e.1.2.2≠mb;omega
  .intro e he e' oY k1 k2
   rcases az.1 he with he|he
   .rcases az.1 oY with oY|oY
    .exact h.ku e he e' oY k1 k2
    .have:=aP.1 oY;subst this;exact absurd ⟨k1,k2⟩ (h1 e.1 (lu he))
   .have:=aP.1 he;subst this
    rcases az.1 oY with oY|oY
    .exact absurd ⟨k1.symm,k2.symm⟩ (h1 e'.1 (lu oY))
    .exact(aP.1 oY).symm
  .rcases az.1 he with he|he
   .exact h.f.2 e he
   .have:=aP.1 he;subst this;show z<=mb;omega
end
def je(g:ByteArray×Int):Int×Int:=if g.2≠0 then(0,0)else if g.1.size≠8 then(0,14)else((lJ g.1.data.toList:Int)-9223372036854775808,0)
theorem ug(l:List PR)(k:ByteArray):(cB l k).2=0\/(cB l k).2=9:=by
 unfold cB
 split
 .exact .inl rfl
 .exact .inr rfl
theorem kL{w:World}{z xb:Nat}{L:List De}(h:DX w z xb L)(hk:L.length<10000)(hz:z<=w.heap.size)(name:ByteArray)(hs:∀e∈L,∀x∈e.2,x.2.size<=1000000):
  Calls prog 91 #[.pointer (some ⟨xb,0,none⟩),.string name] w λe w'=> ∃mb l L',e=.returned (.tuple #[.int .i64 (je (cB l name)).1,.int .i64 (je (cB l name)).2])/\DX w' z xb L'/\((7,0,mb),l)∈L'/\(L'=L\/(L'=L++[((7,0,mb),[])]/\l=[]))/\ag [xb] w w':=by
 have KO:=xh (h.of hk hz 7 0);have HS:=xh hs;clear h hk hz hs;go_enter func91,ntmps91;go_wp2_with fail;refine KO.o.mono ?_;rintro e w1 ⟨mb,rfl,l,L',D1,hm,hL,o1⟩;obtain⟨v,M1⟩:=D1.m _ hm;have mM:(cB l name).1.size<=1000000:=by
  rcases ug l name with h0|h9
  .have Ig:=hm;unfold cB
   split
   .cases hx:l[oP l name]? with
    |none=>show(⟨#[]⟩:ByteArray).size<=_;decide
    |some x=>
     have Ay:=aA hx
     rcases hL with rfl|⟨rfl,rfl⟩
     .exact HS.o _ hm x Ay
     .simp at Ay
   .show(⟨#[]⟩:ByteArray).size<=_;decide
  .unfold cB at h9 ⊢
   split at h9
   .cases h9
   .rename_i hb;rw[if_neg hb];show(⟨#[]⟩:ByteArray).size<=_;decide
 have he:=ug l name;have KG:=Hn M1 name;obtain⟨b,e1,hg⟩:∃b e1,cB l name=(b,e1):=⟨_,_,rfl⟩;have HG:=xh hg;rw[hg]at KG mM he;dsimp only at KG mM he;have KG:=xh KG;have H1:=xh (And.intro D1 (And.intro hm (And.intro hL o1)));clear D1 hm hL o1 M1 hg;go_wp2_with fail;refine KG.o.mono ?_;rintro e w2 ⟨rfl,bS⟩
 have H2:=xh (show DX w2 z xb L'/\((7,0,mb),l)∈L'/\(L'=L\/(L'=L++[((7,0,mb),[])]/\l=[]))/\ag [xb] w w2 from⟨H1.o.1.below bS,H1.o.2.1,H1.o.2.2.1,H1.o.2.2.2.trans (.ai bS)⟩);clear bS
 rcases he with rfl|rfl
 .by_cases h8:b.size=8
  .have KR:=xh (λ(W:World)=>IZ b 0 (by omega) mM W);have hc:je (cB l name)=((lJ b.data.toList:Int)-9223372036854775808,0):=by unfold je;rw[HG.o,if_neg (by simp),if_neg (by simpa using h8)]
   have ht:(b.data.toList.drop 0).take 8=b.data.toList:=by
    have hl:b.data.toList.length=8:=by simpa using h8
    simp[bY,hl]
   rw[ht]at KR;have HC:=xh hc;clear hc ht;generalize (lJ b.data.toList:Int)-9223372036854775808=cv at *;have h8I:(b.size:Int)=8:=by omega
   go_wp2_with fail;refine(KR.o _).mono ?_;rintro e w3 ⟨rfl,cZ⟩;have H3:=xh (show DX w3 z xb L'/\((7,0,mb),l)∈L'/\(L'=L\/(L'=L++[((7,0,mb),[])]/\l=[]))/\ag [xb] w w3 from⟨H2.o.1.below cZ,H2.o.2.1,H2.o.2.2.1,H2.o.2.2.2.trans (.ai cZ)⟩);clear cZ;go_wp2_with fail;go_ret2;exact⟨mb,l,L',(by rw[HC.o];first|rfl|simp),H3.o⟩
  .have hc:je (cB l name)=(0,14):=by unfold je;rw[HG.o,if_neg (by simp),if_pos h8]
   have h8I:¬(b.size:Int)=8:=by omega
   have HC:=xh hc;clear hc;go_wp2_with fail;go_ret2;exact⟨mb,l,L',(by rw[HC.o];first|rfl|simp),H2.o⟩
 .have hc:je (cB l name)=(0,0):=by unfold je;rw[HG.o,if_pos (by simp)]
  have HC:=xh hc;clear hc;go_wp2_with fail;go_ret2;exact⟨mb,l,L',(by rw[HC.o];first|rfl|simp),H2.o⟩
end Sh
namespace Sh
open Go.RowKit Pk Dk Pg
section
variable{q:QS}{l o:List PR}{mm k:Nat}
end
variable{a b r:ByteArray}{s s' l l':Nat}
theorem vL(s l:Nat)(a:ByteArray):(aD s l++a).data.toList=UInt8.ofNat (65+s)::UInt8.ofNat l::a.data.toList:=by
 rw[CU,Qk];rfl
theorem Mx{a b:Nat}(ha:a<256)(hb:b<256):UInt8.ofNat a<UInt8.ofNat b↔a<b:=by
 rw[th,gZ,gZ,Dp ha,Dp hb]
theorem Hs(hs:s<=7)(Ff:s'<=7)(hl:l<=6)(ET:l'<=6)(a b:ByteArray):
  kc (aD s l++a) (aD s' l'++b)=if s<s' then -1 else if s'<s then 1 else if l<l' then -1 else if l'<l then 1 else kc a b:=by
 unfold kc;rw[vL,vL,Nd.lC,Nd.lC];simp only[Mx (show 65+s<256 by omega) (show 65+s'<256 by omega),Mx (show 65+s'<256 by omega) (show 65+s<256 by omega),Mx (show l<256 by omega) (show l'<256 by omega),Mx (show l'<256 by omega) (show l<256 by omega)];have e1:(65+s<65+s')↔s<s':=by omega
 have e2:(65+s'<65+s)↔s'<s:=by omega
 simp only[e1,e2]
theorem Ht(s l:Nat):aD s l++⟨#[]⟩=aD s l:=by apply iS;simp[CU]
theorem uh(s l:Nat)(r:ByteArray):(aD s l++r).extract 2 (aD s l++r).size=r:=by
 apply iS;apply nh.1;rw[exl',vL,jE];have:r.data.toList.length=r.size:=by simp
 simp[bY,this]
def UE(k:ByteArray)(s l:Nat)(r:ByteArray):Prop:=s<=7/\l<=5/\r.size<=30/\k=aD s l++r
def gX(M:List PR):Prop:= ∀x∈M,∃s l r,UE x.1 s l r
theorem key_low(hs:s<=7)(hl:l<=5)(h:s'<=7/\l'<=5):nc (aD s l++a) (aD s' l'++r)↔s<s'\/(s=s'/\(l<l'\/(l=l'/\nc a r))):=by
 show kc _ _<=0↔_;rw[Hs hs h.1 (by omega) (by omega)];unfold nc
 split
 .constructor<;>intro<;>omega
 .split
  .constructor<;>intro<;>omega
  .split
   .constructor<;>intro<;>omega
   .split
    .constructor<;>intro<;>omega
    .constructor
     .intro h;exact .inr ⟨by omega,.inr ⟨by omega,h⟩⟩
     .rintro(h|⟨_,h|⟨_,h⟩⟩)
      .omega
      .omega
      .exact h
theorem Ap(hs:s<=7)(hl:l<=6)(h:s'<=7/\l'<=5):eL (aD s' l'++r) (aD s l++b)↔s'<s\/(s'=s/\(l'<l\/(l'=l/\eL r b))):=by
 show kc _ _<0↔_;rw[Hs h.1 hs (by omega) hl];unfold eL
 split
 .constructor<;>intro<;>omega
 .split
  .constructor<;>intro<;>omega
  .split
   .constructor<;>intro<;>omega
   .split
    .constructor<;>intro<;>omega
    .constructor
     .intro h;exact .inr ⟨by omega,.inr ⟨by omega,h⟩⟩
     .rintro(h|⟨_,h|⟨_,h⟩⟩)
      .omega
      .omega
      .exact h
theorem klt_nil(r:ByteArray):¬eL r ⟨#[]⟩:=λh=>re h (rf r)
theorem ql(hs:s<=7)(hl:l<=5)(h:s'<=7/\l'<=5):wL (aD s l++a) (ky s l b) (aD s' l'++r)=true↔s'=s/\l'=l/\wL a b r=true:=by
 have hz:(ky s l b).size≠0:=by
  unfold ky
  split
  .show(2:Nat)≠0;decide
  .rw[jE];omega
 unfold wL;simp only[gH,nU,decide_eq_true_eq];rw[key_low hs hl h];have hup:eL (aD s' l'++r) (ky s l b)↔s'<s\/(s'=s/\(l'<l\/(l'=l/\(b.size=0\/eL r b)))):=by
  unfold ky
  by_cases hb:b=⟨#[]⟩
  .rw[if_pos hb,<-Ht s (l+1),Ap hs (by omega) h];have:b.size=0:=by rw[hb];rfl
   constructor
   .rintro(h1|⟨h1,h2|⟨h2,h3⟩⟩)
    .exact .inl h1
    .exact .inr ⟨h1,by omega⟩
    .exact absurd h3 (klt_nil r)
   .rintro(h1|⟨h1,h2|⟨h2,h3⟩⟩)
    .exact .inl h1
    .exact .inr ⟨h1,.inl (by omega)⟩
    .exact .inr ⟨h1,.inl (by omega)⟩
  .rw[if_neg hb,Ap hs (by omega) h];have:¬b.size=0:=λe=>hb (iS (Qh e));simp only[this,false_or]
 rw[hup]
 constructor
 .rintro⟨h1,h2⟩
  rcases h2 with h2|h2
  .exact absurd h2 hz
  .have e1:s'=s:=by omega
   subst e1;have h1':l<l'\/(l=l'/\nc a r):=by rcases h1 with h1|⟨_,h1⟩;omega;exact h1
   have h2':l'<l\/(l'=l/\(b.size=0\/eL r b)):=by rcases h2 with h2|⟨_,h2⟩;omega;exact h2
   have e2:l'=l:=by omega
   subst e2;exact⟨rfl,rfl,(h1'.resolve_left (by omega)).2,(h2'.resolve_left (by omega)).2⟩
 .rintro⟨rfl,rfl,h3,h4⟩;exact⟨.inr ⟨rfl,.inr ⟨rfl,h3⟩⟩,.inr (.inr ⟨rfl,.inr ⟨rfl,h4⟩⟩)⟩
def aF(s l:Nat)(M:List PR):List PR:=(M.filter (jZ (aD s l) (aD s (l+1)))).map mx
theorem oR(hs:s<=7)(hl:l<=5)(h:s'<=7/\l'<=5):wL (aD s l) (aD s (l+1)) (aD s' l'++r)=true↔s'=s/\l'=l:=by
 have:=ql (a:=⟨#[]⟩) (b:=⟨#[]⟩) (r:=r) hs hl h;rw[Ht,show ky s l ⟨#[]⟩=aD s (l+1)from if_pos rfl]at this;rw[this]
 constructor
 .rintro⟨h1,h2,_⟩;exact⟨h1,h2⟩
 .rintro⟨h1,h2⟩;refine⟨h1,h2,?_⟩;unfold wL;rw[decide_eq_true (rf r)];rfl
theorem iG(s l:Nat)(hs:s<=7)(hl:l<=5)(f:PR->Bool)(g:PR->Bool):∀M:List PR,gX M->(∀x∈M,∀r,UE x.1 s l r->f x=g (r,x.2))->(M.filter (λx=>f x && jZ (aD s l) (aD s (l+1)) x)).map mx=(aF s l M).filter g
 |[],_,_=>rfl
 |x::M,hM,hf=>by
  have ih:=iG s l hs hl f g M (λy hy=>hM y (bz _ hy)) (λy hy=>hf y (bz _ hy));obtain⟨s',l',r,k1,k2,k3,k4⟩:=hM x (by simp);have hp:jZ (aD s l) (aD s (l+1)) x=true↔s'=s/\l'=l:=by unfold jZ;rw[k4];exact oR hs hl ⟨k1,k2⟩
  unfold aF at ih ⊢;rw[fL,fL]
  by_cases hx:jZ (aD s l) (aD s (l+1)) x=true
  .obtain⟨rfl,rfl⟩:=hp.1 hx;have Te:=hf x (by simp) r ⟨k1,k2,k3,k4⟩;have hc:mx x=(r,x.2):=by unfold mx;rw[k4,uh]
   rw[hx,Bool.and_true,if_pos rfl,eh,fL,hc]
   cases hfb:f x
   .rw[<-Te,hfb,if_neg (by simp),if_neg (by simp)];exact ih
   .rw[<-Te,hfb,if_pos rfl,if_pos rfl,eh,hc,ih]
  .rw[CT]at hx;rw[hx,Bool.and_false,if_neg (by simp),if_neg (by simp)];exact ih
variable{s l s' l':Nat}{r:ByteArray}{M:List PR}
theorem klt_tri(a b:ByteArray):eL a b\/a=b\/eL b a:=by
 by_cases h:eL a b
 .exact .inl h
 .rcases nK (km h)with h|h
  .exact .inr (.inr h)
  .exact .inr (.inl h.symm)
theorem UF{a b:ByteArray}(h:eL a b):¬eL b a:=λk=>fI (ev h k)
theorem qm(k:ByteArray):∀M:List PR,M.Pairwise (λa b=>eL a.1 b.1)->px M k++(ng M k++jD M k)=M
 |[],_=>rfl
 |x::M,hs=>by
  obtain⟨h1,h2⟩:=dJ.1 hs;have ih:=qm k M h2;unfold px ng jD at ih ⊢;rw[fL,fL,fL]
  rcases klt_tri x.1 k with h|h|h
  .rw[decide_eq_true h,decide_eq_false (kt h),decide_eq_false (UF h),if_pos rfl,if_neg (by simp),if_neg (by simp),mU,ih]
  .rw[filter_none (l:=M) (λy hy=>decide_eq_false (λhx=>fI (ev hx (h▸h1 y hy)))),filter_none (l:=M) (λy hy=>decide_eq_false (λhx=>kt (h1 y hy) (h.trans hx.symm))),filter_all (l:=M) (λy hy=>decide_eq_true (h▸h1 y hy)),h,decide_eq_false (λe=>fI e),decide_eq_true rfl];simp
  .rw[filter_none (l:=M) (λy hy=>decide_eq_false (λhx=>fI (ev hx (ev h (h1 y hy))))),filter_none (l:=M) (λy hy=>decide_eq_false (λhx=>fI (hx▸ev h (h1 y hy)))),filter_all (l:=M) (λy hy=>decide_eq_true (ev h (h1 y hy))),decide_eq_false (UF h),decide_eq_false (λe=>kt h e.symm),decide_eq_true h];simp
theorem gR(s l:Nat)(A B:List PR):aF s l (A++B)=aF s l A++aF s l B:=by unfold aF;rw[rP,cW]
theorem CO(hs:s<=7)(hl:l<=5){x:PR}(h:UE x.1 s' l' r):aF s l [x]=if s'=s/\l'=l then [(r,x.2)]else []:=by
 obtain⟨k1,k2,k3,k4⟩:=h;have hp:jZ (aD s l) (aD s (l+1)) x=true↔s'=s/\l'=l:=by unfold jZ;rw[k4];exact oR hs hl ⟨k1,k2⟩
 unfold aF;rw[fL,List.filter_nil]
 by_cases hx:s'=s/\l'=l
 .rw[if_pos hx,hp.2 hx,if_pos rfl];show [mx x]=_;have hc:mx x=(r,x.2):=by unfold mx;rw[k4,uh]
  rw[hc]
 .rw[if_neg hx,Lh.2 (λe=>hx (hp.1 e))];rfl
theorem gX.filter(h:gX M)(f:PR->Bool):gX (M.filter f):=λx hx=>h x (dS.1 hx).1
theorem gX.app{A B:List PR}(h:gX A)(h2:gX B):gX (A++B):=λx hx=>(az.1 hx).elim (h x) (h2 x)
theorem gX.set(h:gX M)(hs:s<=7)(hl:l<=5)(hr:r.size<=30)(v:ByteArray):gX (nO M (aD s l++r) v):=
 (h.filter _).app λx hx=>by
  rcases ar.1 hx with rfl|hx
  .exact⟨s,l,r,hs,hl,hr,rfl⟩
  .exact(h.filter _) x hx
theorem gX.del(h:gX M)(k:ByteArray):gX (rJ M k):=(h.filter _).app (h.filter _)
theorem Hu(hs:s<=7)(hl:l<=5)(Ff:s'<=7)(ET:l'<=5)(hn:¬(s=s'/\l=l')):aF s' l' (ng M (aD s l++r))=[]:=by
 unfold aF ng;rw[mV,filter_none (λx hx=>?_),mG];rw[Bool.and_eq_false_iff]
 by_cases hx:x.1=aD s l++r
 .left;rw[Lh];intro he;unfold jZ at he;rw[hx]at he;exact hn ((oR Ff ET ⟨hs,hl⟩).1 he)
 .right;exact decide_eq_false hx
section
variable{M:List PR}{s l s' l':Nat}(hs:s<=7)(hl:l<=5)(Ff:s'<=7)(ET:l'<=5)
include hs hl Ff ET
theorem PA(hM:M.Pairwise (λa b=>eL a.1 b.1))(hn:¬(s=s'/\l=l'))(r v:ByteArray)(hr:r.size<=30):aF s' l' (nO M (aD s l++r) v)=aF s' l' M:=by
 have h3:=congrArg (aF s' l') (qm (aD s l++r) M hM);rw[gR,gR,Hu hs hl Ff ET hn,cX]at h3;rw[<-h3];show aF s' l' (px M _++([_]++jD M _))=_;rw[gR,gR,CO Ff ET (x:=(aD s l++r,v)) ⟨hs,hl,hr,rfl⟩,if_neg hn,cX]
theorem PD(hM:M.Pairwise (λa b=>eL a.1 b.1))(hn:¬(s=s'/\l=l'))(r:ByteArray):aF s' l' (rJ M (aD s l++r))=aF s' l' M:=by
 have h3:=congrArg (aF s' l') (qm (aD s l++r) M hM);rw[gR,gR,Hu hs hl Ff ET hn,cX]at h3;rw[<-h3];unfold rJ;rw[gR]
theorem Hv(hM:gX M)(hn:¬(s=s'/\l=l'))(a b:ByteArray):aF s' l' (M.filter λx=> !jZ (aD s l++a) (ky s l b) x)=aF s' l' M:=by
 have h:=iG s' l' Ff ET (λx=> !jZ (aD s l++a) (ky s l b) x) (λ_=>true) M hM (λx _ r hk=>by
  unfold jZ;rw[hk.2.2.2,Bool.not_eq_true',Lh];intro he;obtain⟨e1,e2,_⟩:=(ql hs hl ⟨hk.1,hk.2.1⟩).1 he;exact hn ⟨e1.symm,e2.symm⟩)
 rw[filter_all (λ_ _=>rfl)]at h;rw[<-h];unfold aF;rw[mV]
 congr 2
 funext x
 rw[Bh]
end
section
variable{M:List PR}{s l:Nat}(hs:s<=7)(hl:l<=5)(hM:gX M)
include hs hl hM
theorem My(r:ByteArray):aF s l (px M (aD s l++r))=px (aF s l M) r:=by
 have h:=iG s l hs hl (λx=>decide (eL x.1 (aD s l++r))) (λx=>decide (eL x.1 r)) M hM (λx _ r' hk=>by
  rw[hk.2.2.2];have:=Ap (r:=r') (b:=r) hs (show l<=6 by omega) (And.intro hs hl);simp only[qC,true_and,false_or]at this;simp only[this])
 unfold px;rw[<-h];unfold aF;rw[mV]
 congr 2
 funext x
 rw[Bh]
theorem Hw(r:ByteArray):aF s l (jD M (aD s l++r))=jD (aF s l M) r:=by
 have h:=iG s l hs hl (λx=>decide (eL (aD s l++r) x.1)) (λx=>decide (eL r x.1)) M hM (λx _ r' hk=>by
  rw[hk.2.2.2];have:=Ap (r:=r) (b:=r') hs (show l<=6 by omega) (And.intro hs hl);simp only[qC,true_and,false_or]at this;simp only[this])
 unfold jD;rw[<-h];unfold aF;rw[mV]
 congr 2
 funext x
 rw[Bh]
theorem UG(r:ByteArray):aF s l (ng M (aD s l++r))=ng (aF s l M) r:=by
 have h:=iG s l hs hl (λx=>decide (x.1=aD s l++r)) (λx=>decide (x.1=r)) M hM (λx _ r' hk=>by
  rw[hk.2.2.2];have:aD s l++r'=aD s l++r↔r'=r:=⟨λe=>by have:=congrArg (λb:ByteArray=>b.extract 2 b.size) e;simpa only[uh]using this,λe=>by rw[e]⟩;simp only[this])
 unfold ng;rw[<-h];unfold aF;rw[mV]
 congr 2
 funext x
 rw[Bh]
theorem set_own(r v:ByteArray)(hr:r.size<=30):aF s l (nO M (aD s l++r) v)=nO (aF s l M) r v:=by
 show aF s l (px M _++([_]++jD M _))=_;rw[gR,gR,CO hs hl (x:=(aD s l++r,v)) ⟨hs,hl,hr,rfl⟩,if_pos ⟨rfl,rfl⟩,My hs hl hM,Hw hs hl hM];rfl
theorem del_own(r:ByteArray):aF s l (rJ M (aD s l++r))=rJ (aF s l M) r:=by
 unfold rJ;rw[gR,My hs hl hM,Hw hs hl hM]
theorem vM(a b:ByteArray):(M.filter (jZ (aD s l++a) (ky s l b))).map mx=(aF s l M).filter (jZ a b):=by
 have h:=iG s l hs hl (λx=>jZ (aD s l++a) (ky s l b) x) (λx=>jZ a b x) M hM (λx _ r' hk=>by
  unfold jZ;rw[hk.2.2.2,Fh,ql hs hl ⟨hs,hl⟩];simp)
 rw[<-h]
 congr 1
 apply List.filter_congr;intro x hx;obtain⟨s',l',r,k1,k2,k3,k4⟩:=hM x hx;rw[Fh,gH];unfold jZ;rw[k4,ql hs hl ⟨k1,k2⟩,oR hs hl ⟨k1,k2⟩]
 constructor
 .rintro⟨a,b,c⟩;exact⟨⟨a,b,c⟩,a,b⟩
 .rintro⟨h,_⟩;exact h
theorem PE(a b:ByteArray):aF s l (M.filter λx=> !jZ (aD s l++a) (ky s l b) x)=(aF s l M).filter λx=> !jZ a b x:=by
 have h:=iG s l hs hl (λx=> !jZ (aD s l++a) (ky s l b) x) (λx=> !jZ a b x) M hM (λx _ r' hk=>by
  unfold jZ
  congr 1
  rw[hk.2.2.2,Fh,ql hs hl ⟨hs,hl⟩];simp)
 rw[<-h];unfold aF;rw[mV]
 congr 2
 funext x
 rw[Bh]
theorem qo(hS:M.Pairwise (λa b=>eL a.1 b.1)):(aF s l M).Pairwise (λa b=>eL a.1 b.1):=by
 unfold aF;rw[sX];refine(hS.filter _).imp_of_mem ?_;intro x y hx hy PV;have key:∀z∈M.filter (jZ (aD s l) (aD s (l+1))),∃r,z.1=aD s l++r/\(mx z).1=r:=λz hz=>by
  obtain⟨iX,jF⟩:=dS.1 hz;obtain⟨s',l',r,k1,k2,k3,k4⟩:=hM z iX;unfold jZ at jF;rw[k4]at jF;obtain⟨rfl,rfl⟩:=(oR hs hl ⟨k1,k2⟩).1 jF;exact⟨r,k4,by unfold mx;rw[k4,uh]⟩
 obtain⟨r,e1,e2⟩:=key x hx;obtain⟨r',e3,e4⟩:=key y hy;rw[e1,e3]at PV;rw[e2,e4];have:=(Ap (r:=r) (b:=r') hs (show l<=6 by omega) (And.intro hs hl)).1 PV;simpa using this
end
attribute [local go_sem ↓] Go.wp_at_zero Go.wp_at_succ
def kB:ByteArray:=⟨#[98]⟩
def k1:ByteArray:=⟨#[49]⟩
def k2:ByteArray:=⟨#[50]⟩
theorem pot0:ef (λ_=>1) (aI ES 0 0)<=0:=by
 have AF:ik ES 0=(true,[],0):=by unfold ES;rw[fU lay0,if_pos rfl];rfl
 unfold aI;rw[AF];decide
section
variable{w W W':World}{wb mb tb:Nat}{I:Ix}{F:List Nat}{q q':QS}{n K K':Nat}{cG:Value}
end
end Sh
namespace Sh
open Go.RowKit Pk Dk Pg
def SI(q:QS)(M:List PR)(k:Nat):Prop:= ∃v o u H Mt,Rd q v o u 300/\Tree v H Mt/\iR Mt=M/\H<=15/\ef Pu (aI v H 0)<=k*2588672/\34*u+ef (λ_=>1) (aI v H 0)<=34+283*k/\M.length<=k/\gX M/\∀x∈M,x.2.size<=1024
theorem SI.le{q:QS}{M:List PR}{k k':Nat}(h:SI q M k)(hk:k<=k'):SI q M k':=by
 obtain⟨v,o,u,H,Mt,R,T,e,hH,hp,hu,hl,hM,hv⟩:=h;exact⟨v,o,u,H,Mt,R,T,e,hH,ay hp (Dr _ hk),by omega,by omega,hM,hv⟩
theorem SI.start{q:QS}{o:Vw}(R:Rd q ES o 1 300):SI q [] 0:=
 ⟨ES,o,1,0,[],R,Un,rfl,by omega,by have:=T0_pot;omega,by have:=pot0;omega,aj _,λx hx=>(by simp at hx),λx hx=>(by simp at hx)⟩
section
variable{q:QS}{M:List PR}{k:Nat}(h:SI q M k)
include h
theorem SI.sorted:M.Pairwise (λa b=>eL a.1 b.1):=by
 obtain⟨v,o,u,H,Mt,R,T,rfl,_⟩:=h;exact T.keys
theorem SI.keys:gX M:=by
 obtain⟨v,o,u,H,Mt,R,T,e,hH,hp,hu,hl,hM,hv⟩:=h;exact hM
theorem SI.Aq:∀x∈M,x.2.size<=1024:=by
 obtain⟨v,o,u,H,Mt,R,T,e,hH,hp,hu,hl,hM,hv⟩:=h;exact hv
theorem SI.len:M.length<=k:=by
 obtain⟨v,o,u,H,Mt,R,T,e,hH,hp,hu,hl,hM,hv⟩:=h;exact hl
theorem SI.set(hk:k<=30){s l:Nat}{r:ByteArray}(hs:s<=7)(hl5:l<=5)(hr:r.size<=30)(value:ByteArray)(hv:value.size<=1024):
  (q.fQ (aD s l++r) value).2=0/\SI (q.fQ (aD s l++r) value).1 (nO M (aD s l++r) value) (k+1):=by
 obtain⟨v,o,u,H,Mt,R,T,rfl,hH,hp,hu,hl,hM,hvv⟩:=h;have hks:(aD s l++r).size<=32:=by rw[jE];omega
 have hu1:u<=260:=by omega
 rcases vK R T hH (aD s l++r) value hks hv with⟨a,v',u',b,c1,c2⟩|⟨a,v',H',M',new,A,C,B,hh,c,b,S,hm⟩
 .omega
 .have hx:(if value.size<=40 then value.size else 0)<=40:=by split<;>omega
  have p1:=S.Cy Pu 0 EW;rw[Mm,n7,show(if H'=H then 0 else 0)=0 by split<;>rfl]at p1;have p2:=S.Cy (λ_=>1) 34 wt1;have hy:(if H'=H then 0 else 34)<=34:=by split<;>omega
  refine⟨a,v',o,u+new,H',M',b,S.t,hm,?_,by omega,?_,?_,hM.set hs hl5 hr value,?_⟩
  .rcases S.h with e|⟨e,f⟩
   .omega
   .by_cases h15:H=15
    .have p3:=f Pu 0 EW;rw[h15,Ut,Mm]at p3;rw[h15]at hp;omega
    .omega
  .have h1:=S.n;have h2:=S.c.1;omega
  .have:=Al (iR Mt) (aD s l++r);unfold nO;simp only[aQ,ff];omega
  .intro x hx;unfold nO at hx
   rcases az.1 hx with hx|hx
   .exact hvv x (dS.1 hx).1
   .rcases ar.1 hx with rfl|hx
    .exact hv
    .exact hvv x (dS.1 hx).1
theorem SI.get(hk:k<=30)(key:ByteArray):SI (q.eQ key).1 M k/\(q.eQ key).2=G8 (ng M key):=by
 obtain⟨v,o,u,H,Mt,R,T,rfl,hH,hp,hu,hl⟩:=h;obtain⟨a,b⟩:=oO R T hH key;exact⟨⟨v,o,u,H,Mt,a,T,rfl,hH,hp,hu,hl⟩,b.resolve_left (λe=>by omega)⟩
theorem SI.scan(hk:k<=30)(fr til:ByteArray)(n:Int):SI (q.iF fr til n).1 M k/\(q.iF fr til n).2=((M.filter (jZ fr til)).take n.toNat,0):=by
 obtain⟨v,o,u,H,Mt,R,T,rfl,hH,hp,hu,hl⟩:=h;obtain⟨a,b⟩:=Pm R T hH fr til n;exact⟨⟨v,o,u,H,Mt,a,T,rfl,hH,hp,hu,hl⟩,b.resolve_left (λe=>by omega)⟩
theorem SI.last(hk:k<=30)(fr til:ByteArray):SI (q.il fr til).1 M k/\(q.il fr til).2=match (M.filter (jZ fr til)).getLast? with|none=>((⟨#[]⟩,⟨#[]⟩),9)|some x=>(x,0):=by
 obtain⟨v,o,u,H,Mt,R,T,rfl,hH,hp,hu,hl⟩:=h;obtain⟨a,b⟩:=Pn R T hH fr til;exact⟨⟨v,o,u,H,Mt,a,T,rfl,hH,hp,hu,hl⟩,b.resolve_left (λe=>by omega)⟩
theorem SI.del(hk:k<=30)(key:ByteArray):
  ((q.jo key).2=9/\ng M key=[]/\SI (q.jo key).1 M k)\/((q.jo key).2=0/\ng M key≠[]/\SI (q.jo key).1 (rJ M key) k):=by
 obtain⟨v,o,u,H,Mt,R,T,rfl,hH,hp,hu,hl,hM,hv⟩:=h
 rcases Po R T hH key with⟨_,a,_⟩|⟨a,b,c⟩|⟨a,c,v',H',M',b,t,m,p,hh⟩
 .omega
 .exact .inl ⟨a,c,v,o,u,H,Mt,b,T,rfl,hH,hp,hu,hl,hM,hv⟩
 .refine .inr ⟨a,c,v',o,u,H',M',b,t,m,by omega,ay (p Pu) hp,?_,?_,hM.del key,λx hx=>?_⟩
  .have:=p (λ_=>1);omega
  .have:=Al (iR Mt) key;unfold rJ;rw[aQ];omega
  .unfold rJ at hx;exact(az.1 hx).elim (λh=>hv x (dS.1 h).1) (λh=>hv x (dS.1 h).1)
theorem SI.clear(hk:k<=30)(fr til:ByteArray):
  (q.gW fr til).2=((((M.filter (jZ fr til)).length:Nat):Int),0)/\SI (q.gW fr til).1 (M.filter λx=> !jZ fr til x) k:=by
 obtain⟨v,o,u,H,Mt,R,T,rfl,hH,hp,hu,hl,hM,hv⟩:=h
 rcases Kw R T hH fr til with⟨_,a,_⟩|⟨a,v',H',M',b,P⟩
 .omega
 .refine⟨a,v',o,u,H',M',b,P.t,P.m,ay P.h hH,ay (P.Cy Pu) hp,?_,ay (yb ..) hl,hM.filter _,λx hx=>hv x (dS.1 hx).1⟩;have:=P.Cy (λ_=>1);omega
theorem SI.pM(hk:k<=30)(key:ByteArray):(q.eQ key).2.1.size<=1024:=by
 obtain⟨a,b⟩:=h.get hk key;rw[b]
 cases hC:ng M key with
 |nil=>show(⟨#[]⟩:ByteArray).size<=_;decide
 |cons x C=>exact h.Aq x (dS.1 (show x∈ng M key by rw[hC];simp)).1
end
end Sh
end Go.Proofs.YtmonobkginiajaaGreat
