/- packed. -/
import Derived.WalkMore
import Derived.Defers
import Derived.Recover
import Derived.Test.YtmonobkginiajaaGreatBs3
set_option linter.all false
set_option maxRecDepth 100000
set_option maxHeartbeats 8000000
namespace Go.Proofs.YtmonobkginiajaaGreat
open Go.Proofs.Tryz
namespace Sh
open Go.RowKit Pk Dk Pg
attribute [local go_sem ↓] Go.wp_at_zero Go.wp_at_succ
variable{w:World}{g:Nat}
structure Fr where
 an:Int
 fO:ByteArray
 held:Int
 bX:Bool
 used:Bool
def Fr.cs(f:Fr):List Value:=[.int .i64 f.an,.string f.fO,.int .i64 f.held,.bool f.bX,.bool f.used]
def Fr.agg(f:Fr):Value:= .agg #[.int .i64 f.an,.string f.fO,.int .i64 f.held,.bool f.bX,.bool f.used]
def Fr.nil:Fr:=⟨-1,⟨#[]⟩,0,false,false⟩
def Fc(l:List Fr):List Value:=l.flatMap Fr.cs
theorem mx(l:List Fr):(Fc l).length=l.length*5:=by
 induction l with
 |nil=>rfl
 |cons f l ih=>simp only[Fc,gJ,aO]at ih ⊢;rw[ih];simp[Fr.cs];omega
theorem frc_get(l:List Fr)(k i:Nat)(hi:i<5)(f:Fr)(hf:l[k]?=some f):(Fc l)[k*5+i]?=f.cs[i]?:=by
 induction l generalizing k with
 |nil=>simp at hf
 |cons a l ih=>
  have e5:a.cs.length=5:=rfl;simp only[Fc,gJ]at ih ⊢
  cases k with
  |zero=>
   simp at hf;subst hf;rw[oo,bl,bE (by omega)]
  |succ k=>
   simp at hf;rw[dR (by omega),e5,show(k+1)*5+i-5=k*5+i from by omega];exact ih k hf
def xe(w:World)(g:Nat)(l:List Fr):Prop:= ∀k f,l[k]?=some f->w.cell? ⟨g,k*5,none⟩=some (.int .i64 f.an)/\w.cell? ⟨g,k*5+1,none⟩=some (.string f.fO)/\w.cell? ⟨g,k*5+2,none⟩=some (.int .i64 f.held)/\w.cell? ⟨g,k*5+3,none⟩=some (.bool f.bX)/\w.cell? ⟨g,k*5+4,none⟩=some (.bool f.used)
theorem xe.of{l:List Fr}{rest:List Value}{t:TypeId}(B:aF w g t (Fc l++rest).toArray):xe w g l:=by
 intro k f hf;have hk:k<l.length:=(aM.1 hf).1;have hl:=mx l;have c:∀i v,i<5->f.cs[i]?=some v->w.cell? ⟨g,k*5+i,none⟩=some v:=λi v hi hv=>
  B.ab (by rw[dh,bE (by omega),frc_get l k i hi f hf,hv])
 exact⟨c 0 _ (by omega) rfl,c 1 _ (by omega) rfl,c 2 _ (by omega) rfl,c 3 _ (by omega) rfl,c 4 _ (by omega) rfl⟩
theorem xe.below{w':World}{l:List Fr}(h:xe w g l)(hb:Below w.heap.size w w'):xe w' g l:=by
 intro k f hf;obtain⟨c0,c1,c2,c3,c4⟩:=h k f hf;exact⟨(hb.cell (eg c0)).trans c0,(hb.cell (eg c1)).trans c1,(hb.cell (eg c2)).trans c2,(hb.cell (eg c3)).trans c3,(hb.cell (eg c4)).trans c4⟩
def Gs(b:Fr->Bool)(l:List Fr):Int:=if l.findIdx b<l.length then(l.findIdx b:Int)else -1
def findF(l:List Fr)(p:Int):Int:=if p<0 then -1 else Gs (λf=>decide (f.an=p)) l
theorem ub{b:Fr->Bool}{l:List Fr}{k:Nat}{f:Fr}(hf:l[k]?=some f)(hb:b f=true)(ha:∀(j:Nat) (a:Fr),j<k->l[j]?=some a->b a=false):Gs b l=k:=by
 have hk:k<l.length:=(aM.1 hf).1;have hg:l[k]=f:=(aM.1 hf).2;have e:l.findIdx b=k:=by
  rw[List.findIdx_eq hk];exact⟨by rw[hg];exact hb,λj hj=>by have:=ha j l[j] hj (aG (by omega));simp[this]⟩
 unfold Gs;rw[e,if_pos hk]
theorem zx{b:Fr->Bool}{l:List Fr}(ha:∀(j:Nat) (a:Fr),l[j]?=some a->b a=false):Gs b l= -1:=by
 have e:l.findIdx b=l.length:=by
  rw[List.findIdx_eq_length];intro x hx;obtain⟨i,hi,rfl⟩:=List.mem_iff_getElem.1 hx;exact ha i _ (aG hi)
 unfold Gs;rw[e,if_neg (yu _)]
theorem PZ{fn:Func}{p:Tmp}{f:Fr}{tmps:Array Value}(h:fn.results= #[.cell p 167])(hp:tmps.getD p undef=.pointer (some ⟨g,0,none⟩))(B:aF w g 167 f.cs.toArray):
  (results fn tmps).run prog w=.ok f.agg w:=by
 have c0:=B.ab (i:=0) rfl;have c1:=B.ab (i:=1) rfl;have c2:=B.ab (i:=2) rfl;have c3:=B.ab (i:=3) rfl;have c4:=B.ab (i:=4) rfl;rw[dJ h,hp];clear h hp B;unfold Fr.agg;go_simp;exact⟨rfl,rfl,rfl,rfl,rfl⟩
theorem l7(w:World):Calls prog 86 #[] w λe w'=>e=.returned Fr.nil.agg/\Below w.heap.size w w':=by
 unfold Fr.nil Fr.agg;go_enter func86,ntmps86;go_wp2_with fail;exact bodyPost_ret (PZ (f:=Fr.nil) rfl rfl (aF.new w 167 Fr.nil.cs.toArray)) rfl ⟨rfl,ae (Below.refl w.heap.size w) _⟩
theorem qX(f:Fr)(q:Nat)(p:Int)(w:World)(hq:w.cell? ⟨q,0,none⟩=some (.int .i64 p))(b:Bool)(hb:b=decide (f.an=p)):
  Calls prog 221 #[f.agg,.pointer (some ⟨q,0,none⟩)] w λe w'=>e=.returned (.bool b)/\Below w.heap.size w w':=by
 have O0:=xh ((Below.refl w.heap.size w).alloc (Nat.le_refl _) (.cells #[.int .i64 f.an,.string f.fO,.int .i64 f.held,.bool f.bX,.bool f.used] 167));have B0:=aF.new w 167 #[.int .i64 f.an,.string f.fO,.int .i64 f.held,.bool f.bX,.bool f.used];have c0:=B0.ab (i:=0) rfl;have HB:=xh hb;have Fe:=(O0.o.cell (eg hq)).trans hq;clear hb hq B0;unfold Fr.agg;go_enter func221,ntmps221;go_wp2_with fail;go_ret;exact⟨by rw[HB.o];rfl,O0.o⟩
theorem Ks(g n c q:Nat)(p:Int)(l:List Fr)(h:xe w g l)(hl:l.length=n)(hn:n<=1000000)(hq:w.cell? ⟨q,0,none⟩=some (.int .i64 p)):
  Calls prog 220 #[.slice (some ⟨g,0,none⟩) n c,.func (Fn.func 221) #[] #[.pointer (some ⟨q,0,none⟩)]] w λe w'=>e=.returned (.int .i64 (Gs (λf=>decide (f.an=p)) l))/\Below w.heap.size w w':=by
 have HL:=xh hl;have H0:=xh h;have HQ:=xh hq;clear h hq hl;go_enter func220,ntmps220;go_wp2_with fail
 go_loopw [8] (λiv wr=> ∃i:Nat,i<=n/\iv=.int .i64 i/\Hid (∀j a,j<i->l[j]?=some a->decide (a.an=p)=false)/\Hid (Below w.heap.size w wr)) (λiv _=>n-(intOf iv).toNat)
 case atStart=>exact⟨0,bf _,rfl,xh (λj a hj=>absurd hj (kZ j)),xh (Below.refl _ _)⟩
 case round=>
  obtain⟨i,hi,rfl,HA,HB⟩:=hrel
  by_cases h:i<n
  .have hf:l[i]?=some (l[i]'(by have:=HL.o;omega)):=aG _;generalize (l[i]'(by have:=HL.o;omega))=f at hf;obtain⟨c0,c1,c2,c3,c4⟩:=(H0.o.below HB.o) i f hf;have KF:=xh (qX f q p wr ((HB.o.cell (eg HQ.o)).trans HQ.o) _ rfl);have HF:=xh hf;clear hf;unfold Fr.agg at KF;obtain⟨b,hb⟩:∃b,decide (f.an=p)=b:=⟨_,rfl⟩;rw[hb]at KF;have HD:=xh hb;clear hb;go_wp2_with fail;refine KF.o.mono ?_;rintro e w1 ⟨rfl,bg⟩
   have GY:=xh (aC HB.o bg);clear bg
   cases b with
   |true=>
    have he:=xh (ub (b:=λf=>decide (f.an=p)) HF.o HD.o HA.o);go_wp2_with fail;go_ret;exact⟨by rw[he.o];rfl,GY.o⟩
   |false=>
    go_wp2_with fail;go_roundw
    case rel=>
     refine⟨i+1,by omega,by go_num,xh (λj a hj ha=>?_),GY⟩
     rcases oh.1 hj with hj|rfl
     .exact HA.o j a hj ha
     .have:=HF.o.symm.trans ha;injection this with this
      subst this;exact HD.o
    case measure=>simp[intOf];omega
  .have he:=xh (zx (b:=λf=>decide (f.an=p)) (l:=l) (λj a ha=>HA.o j a (by have:=(aM.1 ha).1;have:=HL.o;omega) ha));go_wp2_with fail;go_ret;exact⟨by rw[he.o];rfl,HB.o⟩
attribute [local go_sem ↓] bw
variable{w:World}{v:Value}
theorem Kt:(prog.info? 167).map (λi=>(i.zero,i.size,i.bytes))=some (some (.agg #[.int .i64 0,.string ⟨#[]⟩,.int .i64 0,.bool false,.bool false]),5,40):=by kernel_rfl
theorem Ku(l k:List Fr):Fc (l++k)=Fc l++Fc k:=by simp[Fc]
theorem bstep2{a b c:World}(h:Below w.heap.size w a)(k:Below a.heap.size a b)(o:ag (ah v) b c)(hf:∀g∈ah v,w.heap.size<=g):Below w.heap.size w c:=
 (aC h k).trans (o.aJ (aq h.size k.size) hf)
theorem append_nil{n:Nat}{l:List Fr}(h:aS w 167 5 v n (Fc l))(hn:n<=1000):
  ∃v' w',dZ prog 141 141 (w.alloc (.cells #[.int .i64 (-1),.string ⟨#[]⟩,.int .i64 0,.bool false,.bool false] 167)) v (.slice (some ⟨w.heap.size,0,none⟩) 1 1)= .ok v' w'/\aS w' 167 5 v' (n+1) (Fc (l++[Fr.nil]))/\ag (ah v) w w'/\(∀g∈ah v',g∈ah v\/w.heap.size<=g):=by
 obtain⟨i0,hi,ku,js,ki⟩:=info_parts Kt;obtain⟨v',w',h1,h2,h3,h4⟩:=dC (P:=prog) (h.alloc (.cells #[.int .i64 (-1),.string ⟨#[]⟩,.int .i64 0,.bool false,.bool false] 167)) 141 141 i0 _ 40 underlying141 hi ku js ki rfl (by omega)
  ⟨w.heap.size,0,none⟩ 1 1 Fr.nil.cs rfl (bq (l:=Fr.nil.cs) (aF.new w _ #[.int .i64 (-1),.string ⟨#[]⟩,.int .i64 0,.bool false,.bool false]) 0 _ (by intro j u hu;rw[bl];exact hu)) (by intro u hu;simp[Fr.cs,Fr.nil]at hu;rcases hu with rfl|rfl|rfl|rfl<;>rfl) (by unfold maxLen;omega) (by omega)
 refine⟨v',w',h1,?_,((ag.refl _ _).alloc _).aL h3 (λx hx _=>hx),λg hg=>(h4 g hg).imp id (λh=>by simp at h;omega)⟩;rw[Ku];exact h2
theorem TH(b k:Nat)(h1:1<=k)(h2:k<=32):
  Calls prog 34 #[sp b,.int .i64 (k:Nat)] w λe w'=> ∃pb v,e=.returned (.tuple #[.pointer (some ⟨pb,0,none⟩),.int .i64 0])/\aF w' pb 143 #[sp b,v,.int .i64 0]/\aS w' 167 5 v k (Fc (List.replicate k Fr.nil))/\Below w.heap.size w w'/\w.heap.size<=pb/\∀g∈ah v,w.heap.size<=g:=by
 have KE:=xh l7;have O0:=xh (ae (Below.refl w.heap.size w) (.cells #[sp b,.slice none 0 0,.int .i64 0] 143));have B0:=xh (aF.new w 143 #[sp b,.slice none 0 0,.int .i64 0]);have k1:¬(k:Int)<1:=by omega
 have k2:¬(32:Int)<(k:Int):=by omega
 unfold sp at *;go_enter func34,ntmps34;go_wp2_with fail;generalize hwa:w.alloc (.cells #[.pointer (some ⟨b,0,none⟩),.slice none 0 0,.int .i64 0] 143)=wa at *;clear hwa
 go_loopw [21] (λiv wr=> ∃i:Nat,i<=k/\iv=.int .i64 i/\∃v,Hid (aF wr w.heap.size 143 #[.pointer (some ⟨b,0,none⟩),v,.int .i64 0])/\Hid (aS wr 167 5 v i (Fc (List.replicate i Fr.nil)))/\Hid (Below w.heap.size w wr)/\Hid (∀g∈ah v,w.heap.size<=g)) (λiv _=>k-(intOf iv).toNat)
 case atStart=>exact⟨0,bf _,rfl,.slice none 0 0,B0,xh (aS.nil _ _ _),O0,xh (by simp[ah])⟩
 case round=>
  obtain⟨i,hi,rfl,v,BP,SP,OB,FR⟩:=hrel
  by_cases h:i<k
  .obtain⟨A,cc,rfl⟩:=ax SP.o;have hI:(i:Int)<(k:Int):=by omega
   have OD:=xh (show Below wr.heap.size wr wr.drew from(Below.refl _ _).drew);have c0:=BP.o.ab (i:=1) rfl;have NB:=xh (show w.heap.size∉ah (.slice A i cc)from dk SP.o BP.o (by decide));go_wp2_with fail;refine wp_region_held_drew (S:=λ_=>True) (by kernel_rfl) (trivial) (λau=>?_);refine cP [(0,23),(1,24),(2,25),(3,26)] ?_
   iterate 4 refine bj ?_
   refine wpAnyH_ready (rs:=[4,5]) (by kernel_rfl) (by simp) ?_;refine AllReadyH.cons (o:=⟨some 27,_,_,_,_,_⟩) rfl (λK hK=>?_) (AllReadyH.cons (o:=⟨some 28,_,_,_,_,_⟩) rfl (λK hK=>?_) AllReadyH.nil)
   focus
    go_simp;refine bz hK (trivial) (λau=>?_);refine cQ 5 28 λK hK=>?_;go_simp
    go_at_call 86
    refine(KE.o _).mono ?_;rintro e v1 ⟨rfl,po⟩;have P1:=xh (aC OD.o po);have BP1:=xh (BP.o.below P1.o BP.o.lt);have SP1:=xh (SP.o.below P1.o);have cl:=BP1.o.ab (i:=1) rfl;clear po;unfold Fr.nil Fr.agg;go_simp;refine bz hK (trivial) (λau=>?_);refine cQ 6 29 λK hK=>?_;go_simp;obtain⟨v2,w2,ea,S2,R4,CQ⟩:=append_nil SP1.o (by omega);obtain⟨A2,cc2,rfl⟩:=ax S2;have EA:=xh ea;have SP2:=xh S2;have OW2:=xh R4
    have FR2:=xh CQ;have BP2:=xh (BP1.o.only OW2.o NB.o);clear ea S2 R4 CQ cl;refine bz hK (trivial) (λau=>?_);refine cQ 7 30 λK hK=>?_;go_simp;rw[EA.o];go_simp;refine bz hK (trivial) (λau=>?_);refine cP [(8,31),(9,32)] ?_
    iterate 2 refine bj ?_
    refine nB 10 λK hK=>?_;go_simp;have q0:=BP2.o.ab (i:=1) rfl;have q1:=BP2.o.frozen 1 (by simp);go_simp;refine bz hK (trivial) (λau=>?_)
   rotate_left
   focus
    go_simp
    go_at_call 86
    refine(KE.o _).mono ?_;rintro e v1 ⟨rfl,po⟩;have P1:=xh (aC OD.o po);have BP1:=xh (BP.o.below P1.o BP.o.lt);have SP1:=xh (SP.o.below P1.o);have cl:=BP1.o.ab (i:=1) rfl;clear po;unfold Fr.nil Fr.agg;go_simp;refine bz hK (trivial) (λau=>?_);refine wpAnyH_ready (rs:=[4,6]) (by kernel_rfl) (by simp) ?_;refine AllReadyH.cons (o:=⟨some 27,_,_,_,_,_⟩) rfl (λK hK=>?_) (AllReadyH.cons (o:=⟨some 29,_,_,_,_,_⟩) rfl (λK hK=>?_) AllReadyH.nil)
    focus
     go_simp;refine bz hK (trivial) (λau=>?_);refine cQ 6 29 λK hK=>?_;go_simp;obtain⟨v2,w2,ea,S2,R4,CQ⟩:=append_nil SP1.o (by omega);obtain⟨A2,cc2,rfl⟩:=ax S2;have EA:=xh ea;have SP2:=xh S2;have OW2:=xh R4;have FR2:=xh CQ;have BP2:=xh (BP1.o.only OW2.o NB.o);clear ea S2 R4 CQ cl;refine bz hK (trivial) (λau=>?_);refine cQ 7 30 λK hK=>?_;go_simp;rw[EA.o];go_simp;refine bz hK (trivial) (λau=>?_)
     refine cP [(8,31),(9,32)] ?_
     iterate 2 refine bj ?_
     refine nB 10 λK hK=>?_;go_simp;have q0:=BP2.o.ab (i:=1) rfl;have q1:=BP2.o.frozen 1 (by simp);go_simp;refine bz hK (trivial) (λau=>?_)
    rotate_left
    focus
     go_simp;obtain⟨v2,w2,ea,S2,R4,CQ⟩:=append_nil SP1.o (by omega);obtain⟨A2,cc2,rfl⟩:=ax S2;have EA:=xh ea;have SP2:=xh S2;have OW2:=xh R4;have FR2:=xh CQ;have BP2:=xh (BP1.o.only OW2.o NB.o);clear ea S2 R4 CQ cl;have cl:=(BP1.o.alloc (.cells #[.int .i64 (-1),.string ⟨#[]⟩,.int .i64 0,.bool false,.bool false] 167)).ab (i:=1) rfl;refine bz hK (trivial) (λau=>?_);refine cQ 4 27 λK hK=>?_;go_simp
     refine bz hK (trivial) (λau=>?_);refine cQ 7 30 λK hK=>?_;go_simp;rw[EA.o];go_simp;refine bz hK (trivial) (λau=>?_);refine cP [(8,31),(9,32)] ?_
     iterate 2 refine bj ?_
     refine nB 10 λK hK=>?_;go_simp;have q0:=BP2.o.ab (i:=1) rfl;have q1:=BP2.o.frozen 1 (by simp);go_simp;refine bz hK (trivial) (λau=>?_)
    rotate_left
   rotate_left 2
   all_goals
    refine wpAnyH_done (by kernel_rfl) ?_ _;have BP3:=BP2.o.bU 1 (.slice A2 (i+1) cc2);have SP3:=SP2.o.only ((ag.refl [w.heap.size] w2).setCell (p:=⟨w.heap.size,1,none⟩) (by simp) (.slice A2 (i+1) cc2)) (λg hg hm=>by simp at hm;subst hm;exact dk SP2.o BP2.o (by decide) hg);have O3:=Below.setCell (bstep2 OB.o P1.o OW2.o FR.o) (p:=⟨w.heap.size,1,none⟩) (Nat.le_refl _) (.slice A2 (i+1) cc2)
    have GZ:∀g∈ah (.slice A2 (i+1) cc2),w.heap.size<=g:=λg hg=>(FR2.o g hg).elim (FR.o g) (λh=>by have:=OB.o.size;have:=P1.o.size;omega);have BP4:=xh BP3;have SP4:=xh SP3;have O4:=xh O3;have HFR:=xh GZ;clear BP3 SP3 O3 GZ q0 q1;go_wp2_with fail;go_roundw
    case rel=>
     refine⟨i+1,by omega,by go_num,.slice A2 (i+1) cc2,BP4,?_,O4,HFR⟩;rw[show List.replicate (i+1) Fr.nil=List.replicate i Fr.nil++[Fr.nil]from yq];exact SP4
    case measure=>simp[intOf];omega
  .have e:i=k:=by omega
   subst e;go_wp2_with fail;go_ret2;exact⟨w.heap.size,v,by first|rfl|simp,BP.o,SP.o,OB.o,Nat.le_refl _,FR.o⟩
end Sh
namespace Sh
open Go.RowKit Pk Dk Pg
attribute [local go_sem ↓] Go.wp_at_zero Go.wp_at_succ
structure Y where
 x:X
 pb:Nat
 fg:Nat
 cp:Nat
structure PS where
 c:C
 l:List Fr
 hand:Nat
def pp(b:Nat):Value:= .pointer (some ⟨b,0,none⟩)
def Y.fp(y:Y):List Nat:=y.pb::y.fg::y.x.fp
structure gW(w:World)(y:Y)(n:Nat)(s:PS):Prop where
 hp:aF w y.pb 143 #[sp y.x.b,.slice (some ⟨y.fg,0,none⟩) s.l.length y.cp,.int .i64 (s.hand:Nat)]
 hf:aS w 167 5 (.slice (some ⟨y.fg,0,none⟩) s.l.length y.cp) s.l.length (Fc s.l)
 hs:At w y.x n s.c
 n1:y.pb∉y.x.fp
 n2:y.fg∉y.x.fp
 l1:1<=s.l.length
 l2:s.l.length<=32
 lh:s.hand<s.l.length
section
variable{w w':World}{y:Y}{n:Nat}{s:PS}{S:List Nat}
theorem gW.n3(h:gW w y n s):y.pb≠y.fg:=λe=>dk h.hf h.hp (by decide) (by simp[ah,e])
theorem gW.only(h:gW w y n s)(ho:ag S w w')(hd:∀g∈y.fp,g∉S):gW w' y n s:=
 ⟨h.hp.only ho (hd _ (by simp[Y.fp])),h.hf.only ho (λg hg=>hd g (by simp[ah]at hg;simp[Y.fp,hg])),h.hs.only ho (λg hg=>hd g (by simp[Y.fp,hg])),h.n1,h.n2,h.l1,h.l2,h.lh⟩
theorem gW.below(h:gW w y n s)(hb:Below w.heap.size w w'):gW w' y n s:=h.only (S:=[]) (.ai hb) (by simp)
theorem gW.drew(h:gW w y n s):gW w.drew y n s:=h.below ((Below.refl _ _).drew)
theorem gW.lt(h:gW w y n s):∀g∈y.fp,g<w.heap.size:=by
 intro g hg;simp only[Y.fp,aj]at hg
 rcases hg with rfl|rfl|hg
 .exact h.hp.lt
 .exact h.hf.lt _ (by simp[ah])
 .exact h.hs.lt g hg
theorem gW.p0(h:gW w y n s):w.cell? ⟨y.pb,0,none⟩=some (.pointer (some ⟨y.x.b,0,none⟩)):=h.hp.ab rfl
theorem gW.p1(h:gW w y n s):w.cell? ⟨y.pb,1,none⟩=some (.slice (some ⟨y.fg,0,none⟩) s.l.length y.cp):=h.hp.ab rfl
theorem gW.p2(h:gW w y n s):w.cell? ⟨y.pb,2,none⟩=some (.int .i64 (s.hand:Nat)):=h.hp.ab rfl
theorem gW.yD(h:gW w y n s):xe w y.fg s.l:=by
 obtain⟨rest,B,_⟩:=h.hf.uP;exact .of B
theorem gW.store(h:gW w y n s){c':C}(p:∃x',x'.b=y.x.b/\x'.L=y.x.L/\At w' x' n c'/\ag y.x.fp w w'/\∀g∈x'.fp,g∈y.x.fp\/w.heap.size<=g):
  ∃y',y'.pb=y.pb/\y'.fg=y.fg/\y'.cp=y.cp/\y'.x.b=y.x.b/\y'.x.L=y.x.L/\gW w' y' n {s with c:=c'}/\ag y.fp w w'/\∀g∈y'.fp,g∈y.fp\/w.heap.size<=g:=by
 obtain⟨x',e1,e2,A,o,fr⟩:=p;have l1:=h.lt y.pb (by simp[Y.fp]);have l2:=h.lt y.fg (by simp[Y.fp]);refine⟨⟨x',y.pb,y.fg,y.cp⟩,rfl,rfl,rfl,e1,e2,⟨?_,h.hf.only o (λg hg=>by simp[ah]at hg;subst hg;exact h.n2),A,?_,?_,h.l1,h.l2,h.lh⟩,o.mono (λg hg _=>by simp[Y.fp,hg]),?_⟩
 .show aF w' y.pb _ #[sp x'.b,_,_];rw[e1];exact h.hp.only o h.n1
 .exact λhg=>(fr _ hg).elim h.n1 (λh=>absurd l1 (yx.2 h))
 .exact λhg=>(fr _ hg).elim h.n2 (λh=>absurd l2 (yx.2 h))
 .intro g hg;simp only[Y.fp,aj]at hg ⊢
  rcases hg with rfl|rfl|hg
  .exact .inl (.inl rfl)
  .exact .inl (.inr (.inl rfl))
  .exact(fr g hg).imp (λh=> .inr (.inr h)) id
end
theorem iF{w:World}{y:Y}{n:Nat}{s:PS}(h:gW w y n s)(l:Int):
  Calls prog 178 #[pp y.pb,.int .i64 l] w λe w'=>e=.returned (.int .i64 (findF s.l l))/\Below w.heap.size w w':=by
 have O0:=xh (ae (Below.refl w.heap.size w) (.cells #[.int .i64 l] 3));have B0:=xh (aF.new w 3 #[.int .i64 l]);have H0:=h.below O0.o;have q0:=B0.o.ab (i:=0) rfl;have KI:=xh (Ks y.fg s.l.length y.cp w.heap.size l s.l H0.yD rfl (by have:=h.l2;omega) q0);have p1:=H0.p1;obtain⟨R,hR⟩:∃R,findF s.l l=R:=⟨_,rfl⟩;rw[hR];unfold findF at hR;generalize s.l.length=tn at *;clear H0 h;unfold pp
 by_cases h1:l<0
 .rw[if_pos h1]at hR;subst hR;go_enter func178,ntmps178;go_wp2_with fail;go_ret;exact aP O0.o
 .rw[if_neg h1]at hR;rw[hR]at KI;clear hR;go_enter func178,ntmps178;go_wp2_with fail;refine KI.o.mono ?_;rintro e w1 ⟨rfl,bg⟩;have O1:=xh (aC O0.o bg);clear bg;go_wp2_with fail;go_ret;exact aP O1.o
theorem frc_set(l:List Fr)(k j:Nat)(hj:j<5)(f f':Fr)(u:Value)(hf:l[k]?=some f)(hu:f'.cs=f.cs.set j u):(Fc l).set (k*5+j) u=Fc (l.set k f'):=by
 induction l generalizing k with
 |nil=>simp at hf
 |cons a l ih=>
  have e5:a.cs.length=5:=rfl
  cases k with
  |zero=>
   simp at hf;subst hf;simp only[Fc,gJ,List.set_cons_zero,oo,bl]at ih ⊢;rw[yr _ _ (by omega),hu]
  |succ k=>
   simp at hf;have:=ih k hf;simp only[Fc,gJ,List.set_cons_succ]at this ⊢;rw[qN _ _ (by omega),e5,show(k+1)*5+j-5=k*5+j from by omega,this]
section
variable{w w':World}{y:Y}{n:Nat}{s:PS}{S:List Nat}
theorem gW.fE(h:gW w y n s)(k j:Nat)(hj:j<5){f:Fr}(f':Fr)(u:Value)(hf:s.l[k]?=some f)(hu:f'.cs=f.cs.set j u):
  w.frozen? ⟨y.fg,k*5+j,none⟩=false/\gW (w.setCell ⟨y.fg,k*5+j,none⟩ u) y n {s with l:=s.l.set k f'}/\ag y.fp w (w.setCell ⟨y.fg,k*5+j,none⟩ u):=by
 have hk:k<s.l.length:=(aM.1 hf).1;have hl:=mx s.l;obtain⟨rest,B,hr,_,hm⟩:=h.hf.uP;have o:ag [y.fg] w (w.setCell ⟨y.fg,k*5+j,none⟩ u):=(ag.refl _ _).setCell (by simp) _;have B2:=B.bU (k*5+j) u;rw[tK,yr _ _ (by omega),frc_set s.l k j hj f f' u hf hu]at B2
 refine⟨B.frozen _ (by simp;omega),⟨?_,?_,h.hs.only o (λg hg hm=>by simp at hm;subst hm;exact h.n2 hg),h.n1,h.n2,by simpa using h.l1,by simpa using h.l2,by simpa using h.lh⟩,o.mono (λg hg _=>by simp at hg;subst hg;simp[Y.fp])⟩
 .have:=h.hp.only o (by simpa using h.n3);simpa using this
 .refine⟨by rw[mx],.inr ⟨y.fg,y.cp,rest,by simp,B2,by rw[mx,bW];omega,hm⟩⟩
theorem gW.setH(h:gW w y n s)(k:Nat)(hk:k<s.l.length):
  w.frozen? ⟨y.pb,2,none⟩=false/\gW (w.setCell ⟨y.pb,2,none⟩ (.int .i64 (k:Nat))) y n {s with hand:=k}/\ag y.fp w (w.setCell ⟨y.pb,2,none⟩ (.int .i64 (k:Nat))):=by
 have o:ag [y.pb] w (w.setCell ⟨y.pb,2,none⟩ (.int .i64 (k:Nat))):=(ag.refl _ _).setCell (by simp) _;have n3:=h.n3;refine⟨h.hp.frozen 2 (by simp),⟨h.hp.bU 2 _,h.hf.only o (λg hg hm=>by simp[ah]at hg hm;omega),h.hs.only o (λg hg hm=>by simp at hm;subst hm;exact h.n1 hg),h.n1,h.n2,h.l1,h.l2,hk⟩,o.mono (λg hg _=>by simp at hg;subst hg;simp[Y.fp])⟩
end
theorem Ff(b:Fr->Bool)(l:List Fr):Gs b l= -1\/∃k f,Gs b l=((k:Nat):Int)/\l[k]?=some f/\b f=true:=by
 unfold Gs
 by_cases h:l.findIdx b<l.length
 .rw[if_pos h];exact .inr ⟨l.findIdx b,l[l.findIdx b],rfl,aG h,pG⟩
 .rw[if_neg h];exact .inl rfl
theorem fX(l:List Fr)(p:Int):findF l p= -1\/∃k f,findF l p=((k:Nat):Int)/\l[k]?=some f/\f.an=p/\0<=p:=by
 unfold findF
 by_cases h:p<0
 .rw[if_pos h];exact .inl rfl
 .rw[if_neg h];exact(Ff _ l).imp id (λ⟨k,f,e1,e2,e3⟩=>⟨k,f,e1,e2,by simpa using e3,by omega⟩)
def PS.gX(s:PS)(p:Int):Option (Nat×Fr):=
 if findF s.l p<0 then none else match s.l[(findF s.l p).toNat]? with
  |none=>none
  |some f=>if f.held=0 then none else some ((findF s.l p).toNat,f)
def uc(y:Y):Option (Nat×Fr)->Value
 |none=> .tuple #[.pointer none,.int .i64 16]
 |some (k,_)=> .tuple #[.pointer (some ⟨y.fg,k*5,none⟩),.int .i64 0]
theorem zy{w:World}{y:Y}{n:Nat}{s:PS}(h:gW w y n s)(p:Int):
  Calls prog 230 #[pp y.pb,.int .i64 p] w λe w'=>e=.returned (uc y (s.gX p))/\Below w.heap.size w w':=by
 have KF:=xh (iF h p);have HB:=xh (λw' (hb:Below w.heap.size w w')=>h.below hb);obtain⟨R,hR⟩:∃R,uc y (s.gX p)=R:=⟨_,rfl⟩;rw[hR];unfold PS.gX at hR;unfold pp at *
 rcases fX s.l p with e|⟨k,f,e,hf,_,_⟩
 .rw[e,if_pos (by omega)]at hR;rw[e]at KF;subst hR;unfold uc;clear h e;go_enter func230,ntmps230;go_wp2_with fail;refine KF.o.mono ?_;rintro e w1 ⟨rfl,bg⟩;have O1:=xh bg;clear bg;go_wp2_with fail;go_ret2;exact aP O1.o
 .rw[e,if_neg (by omega),show((k:Nat):Int).toNat=k from by omega,hf]at hR;rw[e]at KF;have hk:k<s.l.length:=(aM.1 hf).1;have Kp:(k:Int)<(s.l.length:Int):=by omega
  have P0:¬(k:Int)<0:=by omega
  have HX:=xh (λw' (hb:Below w.heap.size w w')=>(show w'.cell? ⟨y.pb,1,none⟩=some (.slice (some ⟨y.fg,0,none⟩) s.l.length y.cp)/\w'.cell? ⟨y.fg,k*5+2,none⟩=some (.int .i64 f.held)from⟨(HB.o w' hb).p1,((HB.o w' hb).yD k f hf).2.2.1⟩));have HL:=xh (show s.l.length<=32 from h.l2);dsimp only at hR
  by_cases hh:f.held=0
  .rw[if_pos hh]at hR;subst hR;have hq:(f.held==0)=true:=by rw[beq_iff_eq];exact hh
   unfold uc;clear h e hf hk hh;generalize f.held=fh at *;generalize s.l.length=tn at *;go_enter func230,ntmps230;go_wp2_with fail;refine KF.o.mono ?_;rintro e w1 ⟨rfl,bg⟩;have O1:=xh bg;obtain⟨x1,x2⟩:=HX.o w1 bg;clear bg;go_wp2_with fail;go_ret2;exact aP O1.o
  .rw[if_neg hh]at hR;subst hR;have hq:(f.held==0)=false:=by rw[beq_eq_false_iff_ne];exact hh
   unfold uc;clear h e hf hk hh;generalize f.held=fh at *;generalize s.l.length=tn at *;go_enter func230,ntmps230;go_wp2_with fail;refine KF.o.mono ?_;rintro e w1 ⟨rfl,bg⟩;have O1:=xh bg;obtain⟨x1,x2⟩:=HX.o w1 bg;clear bg;go_wp2_with fail;go_ret2;exact aP O1.o
variable{w:World}{y:Y}{n:Nat}
def PS.gY(s:PS)(p:Int):PS×Int:=match s.gX p with
 |none=>(s,16)
 |some (k,f)=>({s with l:=s.l.set k {f with held:=f.held-1}},0)
theorem zz{s:PS}{p:Int}{k:Nat}{f:Fr}(h:s.gX p=some (k,f)):s.l[k]?=some f/\f.held≠0/\findF s.l p=k:=by
 unfold PS.gX at h
 rcases fX s.l p with e|⟨j,g,e,hf,_,_⟩
 .rw[e,if_pos (by omega)]at h
  cases h
 .rw[e,if_neg (by omega),show((j:Nat):Int).toNat=j from by omega,hf]at h;dsimp only at h
  split at h
  .cases h
  .rename_i hh;injection h with h
   injection h with h1 h2
   subst h1 h2;exact⟨hf,hh,e⟩
def PostP(w w':World)(y:Y)(n:Nat)(s':PS):Prop:= ∃y',y'.pb=y.pb/\y'.fg=y.fg/\y'.cp=y.cp/\y'.x.b=y.x.b/\y'.x.L=y.x.L/\gW w' y' n s'/\ag y.fp w w'/\∀g∈y'.fp,g∈y.fp\/w.heap.size<=g
theorem let_any{s:PS}(h:gW w y n s)(p:Int)(hb:∀f∈s.l,-1000<=f.held/\f.held<=4000000000000):
  Calls prog 214 #[pp y.pb,.int .i64 p] w λe w'=>e=.returned (.int .i64 (s.gY p).2)/\gW w' y n (s.gY p).1/\ag y.fp w w':=by
 have KH:=xh (zy h p);have HB:=xh (λw' (hb:Below w.heap.size w w')=>h.below hb);obtain⟨R,hR⟩:∃R,s.gY p=R:=⟨_,rfl⟩;rw[hR];unfold PS.gY at hR;unfold pp at *
 cases hd:s.gX p with
 |none=>
  rw[hd]at hR KH;dsimp only at hR;subst hR;unfold uc at KH;clear h hd hb;go_enter func214,ntmps214;go_wp2_with fail;refine KH.o.mono ?_;rintro e w1 ⟨rfl,bg⟩;have O1:=xh bg;clear bg;go_wp2_with fail;go_ret;exact aP ⟨HB.o _ O1.o,.ai O1.o⟩
 |some r=>
  obtain⟨k,f⟩:=r;obtain⟨hf,hh,_⟩:=zz hd;rw[hd]at hR KH;dsimp only at hR;subst hR;have hfb:=hb f (ay hf);have HS:=xh (λw' (hb:Below w.heap.size w w')=>(HB.o w' hb).fE k 2 (by omega) {f with held:=f.held-1} (.int .i64 (f.held-1)) hf rfl);have HC:=xh (λw' (hb:Below w.heap.size w w')=>((HB.o w' hb).yD k f hf).2.2.1);have m1:IntKind.i64.wrap (f.held-1)=f.held-1:=IntWalk.i64_in _ (by omega);unfold uc at KH;clear h hd hb hf hfb hh
  generalize f.held=fh at *;go_enter func214,ntmps214;go_wp2_with fail;refine KH.o.mono ?_;rintro e w1 ⟨rfl,bg⟩;have O1:=xh bg;obtain⟨z1,A1,o1⟩:=HS.o w1 bg;have A1:=xh A1;have o1:=xh o1;have c1:=HC.o w1 bg;clear bg;go_wp2_with fail;go_ret;exact aP ⟨A1.o,(ag.ai O1.o).trans o1.o⟩
theorem P8{s:PS}(h:gW w y n s)(v:ByteArray)(hs:v.size<=9223372036854775807)(Gn:0<=s.c.ep/\s.c.ep<=1099511627776)(hc:s.c.d.calls<=3999999999999999990)(hr:s.c.d.bn<=9223372036854775807):
  Calls prog 69 #[pp y.pb,.string v] w λe w'=>e=.returned (.tuple #[.int .i64 (s.c.bJ n v.data.toList).2.1,.int .i64 (s.c.bJ n v.data.toList).2.2])/\PostP w w' y n {s with c:=(s.c.bJ n v.data.toList).1}:=by
 have KN:=xh (new_any h.hs v hs Gn hc hr);have HP:=xh (λw' (p:yh w w' y.x n (s.c.bJ n v.data.toList).1)=>(show PostP w w' y n {s with c:=(s.c.bJ n v.data.toList).1}from h.store p));have p0:=h.p0;generalize (s.c.bJ n v.data.toList)=R at *;clear h hs Gn hc hr;unfold pp sp at *;go_enter func69,ntmps69;go_wp2_with fail;refine KN.o.mono ?_;rintro e w1 ⟨rfl,P1⟩;have P2:=xh (HP.o w1 P1);clear P1;go_wp2_with fail;go_ret2;exact aP P2.o
theorem Kv{s:PS}(h:gW w y n s):
  Calls prog 28 #[pp y.pb] w λe w'=>e=.returned (sp y.x.b)/\w=w':=by
 have p0:=h.p0;clear h;unfold pp sp at *;go_enter func28,ntmps28;go_wp2_with fail;go_ret;exact aP rfl
variable{w:World}
theorem Qa(f:Fr)(w:World)(b:Bool)(hb:b=decide (f.an<0)):
  Calls prog 244 #[f.agg] w λe w'=>e=.returned (.bool b)/\Below w.heap.size w w':=by
 have O0:=xh ((Below.refl w.heap.size w).alloc (Nat.le_refl _) (.cells #[.int .i64 f.an,.string f.fO,.int .i64 f.held,.bool f.bX,.bool f.used] 167));have B0:=aF.new w 167 #[.int .i64 f.an,.string f.fO,.int .i64 f.held,.bool f.bX,.bool f.used];have c0:=B0.ab (i:=0) rfl;have HB:=xh hb;clear hb B0;unfold Fr.agg;go_enter func244,ntmps244;go_wp2_with fail;go_ret;exact⟨by rw[HB.o];first|rfl|simp,O0.o⟩
theorem Kw(g n c:Nat)(l:List Fr)(h:xe w g l)(hl:l.length=n)(hn:n<=1000000):
  Calls prog 220 #[.slice (some ⟨g,0,none⟩) n c,.func (Fn.func 244) #[] #[]] w λe w'=>e=.returned (.int .i64 (Gs (λf=>decide (f.an<0)) l))/\Below w.heap.size w w':=by
 have HL:=xh hl;have H0:=xh h;clear h hl;go_enter func220,ntmps220;go_wp2_with fail
 go_loopw [8] (λiv wr=> ∃i:Nat,i<=n/\iv=.int .i64 i/\Hid (∀(j:Nat) (a:Fr),j<i->l[j]?=some a->decide (a.an<0)=false)/\Hid (Below w.heap.size w wr)) (λiv _=>n-(intOf iv).toNat)
 case atStart=>exact⟨0,bf _,rfl,xh (λj a hj=>absurd hj (kZ j)),xh (Below.refl _ _)⟩
 case round=>
  obtain⟨i,hi,rfl,HA,HB⟩:=hrel
  by_cases h:i<n
  .have hf:l[i]?=some (l[i]'(by have:=HL.o;omega)):=aG _;generalize (l[i]'(by have:=HL.o;omega))=f at hf;obtain⟨c0,c1,c2,c3,c4⟩:=(H0.o.below HB.o) i f hf;have KF:=xh (Qa f wr _ rfl);have HF:=xh hf;clear hf;unfold Fr.agg at KF;obtain⟨b,hb⟩:∃b,decide (f.an<0)=b:=⟨_,rfl⟩;rw[hb]at KF;have HD:=xh hb;clear hb;go_wp2_with fail;refine KF.o.mono ?_;rintro e w1 ⟨rfl,bg⟩;have GY:=xh (aC HB.o bg);clear bg
   cases b with
   |true=>
    have he:=xh (ub (b:=λf=>decide (f.an<0)) HF.o HD.o HA.o);go_wp2_with fail;go_ret;exact⟨by rw[he.o];rfl,GY.o⟩
   |false=>
    go_wp2_with fail;go_roundw
    case rel=>
     refine⟨i+1,by omega,by go_num,xh (λj a hj ha=>?_),GY⟩
     rcases oh.1 hj with hj|rfl
     .exact HA.o j a hj ha
     .have:=HF.o.symm.trans ha;injection this with this
      subst this;exact HD.o
    case measure=>simp[intOf];omega
  .have he:=xh (zx (b:=λf=>decide (f.an<0)) (l:=l) (λj a ha=>HA.o j a (by have:=(aM.1 ha).1;have:=HL.o;omega) ha));go_wp2_with fail;go_ret;exact⟨by rw[he.o];rfl,HB.o⟩
theorem TK{y:Y}{n q:Nat}{s:PS}(h:gW w y n s)(hq:w.cell? ⟨q,0,none⟩=some (pp y.pb))(hqp:q≠y.pb):
  Calls prog 245 #[.pointer (some ⟨q,0,none⟩)] w λe w'=>e=.returned (.pointer (some ⟨y.fg,s.hand*5,none⟩))/\gW w' y n {s with hand:=(s.hand+1) % s.l.length}/\ag y.fp w w':=by
 have p1:=h.p1;have p2:=h.p2;have l1:=h.l1;have l2:=h.l2;have lh:=h.lh;obtain⟨m,hm⟩:∃m,(s.hand+1) % s.l.length=m:=⟨_,rfl⟩;have nX:m<s.l.length:=by rw[<-hm];exact qR _ (by omega)
 have hmI:((s.hand:Int)+1).tmod (s.l.length:Int)=(m:Int):=by rw[<-hm,show((s.hand:Int)+1)=((s.hand+1:Nat):Int)from by omega];exact(Int.ofNat_tmod _ _).symm
 have hlI:(s.hand:Int)<(s.l.length:Int):=by omega
 have m1:IntKind.i64.wrap ((s.hand:Int)+1)=(s.hand:Int)+1:=IntWalk.i64_in _ (by omega);have m2:IntKind.i64.wrap (m:Int)=(m:Int):=IntWalk.i64_in _ (by omega);have Ca:¬s.l=[]:=by intro e;rw[e]at l1;simp at l1
 rw[hm];have HB:=xh (λw' (hb:Below w.heap.size w w')=>h.below hb);have QB:=xh (λw' (hb:Below w.heap.size w w')=>(hb.cell (eg hq)).trans hq);clear h hm;unfold pp at *;go_enter func245,ntmps245;go_wp2_with fail;go_quiet (fail);have O1:=xh (df (Below.refl w.heap.size w) nq);generalize w.drewN nq=w1 at *;have o0:=HB.o _ O1.o;have od:=o0.drew;have z:=(od.setH m nX).1;have A:=xh (od.setH m nX).2.1
 have OA:=xh ((ag.ai O1.o.drew).trans (od.setH m nX).2.2);have p2d:=od.p2;have HS:=xh (show w1.drew.cell? ⟨q,0,none⟩=some (.pointer (some ⟨y.pb,0,none⟩))/\w1.drew.cell? ⟨y.pb,1,none⟩=some (.slice (some ⟨y.fg,0,none⟩) s.l.length y.cp)from⟨QB.o _ O1.o.drew,od.p1⟩)
 have Kx:=xh (show(w1.drew.setCell ⟨y.pb,2,none⟩ (.int .i64 (m:Nat))).cell? ⟨q,0,none⟩=some (.pointer (some ⟨y.pb,0,none⟩))/\(w1.drew.setCell ⟨y.pb,2,none⟩ (.int .i64 (m:Nat))).cell? ⟨y.pb,1,none⟩=some (.slice (some ⟨y.fg,0,none⟩) s.l.length y.cp)from⟨by
  have c:=QB.o _ O1.o.drew;have o:=(ag.refl [y.pb] w1.drew).setCell (p:=⟨y.pb,2,none⟩) (by simp) (.int .i64 (m:Nat));exact(o.cell (eg c) (by simpa using hqp)).trans c,A.o.p1⟩)
 clear o0 od p1 p2 hq;go_wp2_with fail;refine wp_region_held_drew (S:=λW'=>W'.cell? ⟨q,0,none⟩=some (.pointer (some ⟨y.pb,0,none⟩))/\W'.cell? ⟨y.pb,1,none⟩=some (.slice (some ⟨y.fg,0,none⟩) s.l.length y.cp)) (by kernel_rfl) (HS.o) (λau=>?_);refine cP [(0,12),(1,13),(2,14),(3,15),(6,18),(7,19),(8,20),(9,21),(10,22)] ?_
 iterate 9 refine bj ?_
 refine cQ 4 16 λK hK=>?_;go_simp;refine bz hK (HS.o) (λau=>?_);refine cP [(5,17),(11,23),(12,24),(13,25)] ?_
 iterate 4 refine bj ?_
 refine nB 14 λK hK=>?_;go_simp;refine bz hK (Kx.o) (λau=>?_);refine wpAnyH_done (by kernel_rfl) ?_ _;go_wp2_with fail;go_ret;exact aP ⟨A.o,OA.o⟩
def im(l:List Fr)(k:Nat):Fr:=(l[k]?).getD Fr.nil
def PS.turn(s:PS):PS:={s with hand:=(s.hand+1) % s.l.length}
def PS.jF:Nat->PS->PS×Int
 |0,s=>(s,-1)
 |m+1,s=>
  if 0<(im s.l s.hand).held then PS.jF m s.turn
  else if(im s.l s.hand).used=true then PS.jF m {s.turn with l:=s.l.set s.hand {im s.l s.hand with used:=false}}
  else(s.turn,(s.hand:Int))
def PS.aH(s:PS):PS×Int:=
 if 0<=Gs (λf=>decide (f.an<0)) s.l then(s,Gs (λf=>decide (f.an<0)) s.l)else s.jF (2*s.l.length+1)
theorem jt{l:List Fr}{k:Nat}(h:k<l.length):l[k]?=some (im l k):=by unfold im;rw[aG h];rfl
theorem zA{w:World}{y:Y}{n:Nat}{s:PS}(h:gW w y n s):
  Calls prog 229 #[pp y.pb] w λe w'=>e=.returned (.int .i64 s.aH.2)/\gW w' y n s.aH.1/\ag y.fp w w':=by
 have uR:=h.lt y.pb (by simp[Y.fp]);have O0:=xh (ae (Below.refl w.heap.size w) (.cells #[.pointer (some ⟨y.pb,0,none⟩)] 34));have B0:=xh (aF.new w 34 #[.pointer (some ⟨y.pb,0,none⟩)]);have H0:=xh (h.below O0.o);have KI:=xh (Kw y.fg s.l.length y.cp s.l H0.o.yD rfl (by have:=h.l2;omega));have NP:=xh (show w.heap.size≠y.pb from by omega);have NF:=xh (show w.heap.size∉y.fp from λhm=>by have:=h.lt _ hm;omega)
 have q0:=B0.o.ab (i:=0) rfl;have p1:=H0.o.p1;have l2:=h.l2;obtain⟨R,hR⟩:∃R,s.aH=R:=⟨_,rfl⟩;rw[hR];unfold PS.aH at hR;clear h uR;unfold pp at *
 rcases Ff (λf=>decide (f.an<0)) s.l with e|⟨k,f,e,hf,_⟩
 .rw[e,if_neg (by omega)]at hR;rw[e]at KI;obtain⟨N,hN⟩:∃N,2*s.l.length+1=N:=⟨_,rfl⟩;have m1:IntKind.i64.wrap (2*(s.l.length:Int))=2*(s.l.length:Int):=IntWalk.i64_in _ (by omega);have m2:IntKind.i64.wrap (2*(s.l.length:Int)+1)=(N:Int):=by rw[IntWalk.i64_in _ (by omega)];omega
  have hN65:N<=65:=by omega
  rw[hN]at hR;have HN:=xh hN;have HR:=xh hR;clear e hR hN;go_enter func229,ntmps229;go_wp2_with fail
  go_step3
  go_wp2_with fail;refine KI.o.mono ?_;rintro e w1 ⟨rfl,bg⟩;have O1:=xh (aC O0.o bg);have H1:=xh (H0.o.below bg);have B1:=xh (B0.o.below bg B0.o.lt);have p1':=H1.o.p1;have q1:=B1.o.ab (i:=0) rfl;clear bg p1 q0;go_wp2_with fail
  go_step3
  go_wp2_with fail;clear p1' q1
  go_loopw [5,24] (λov iv wr=> ∃(i:Nat) (s':PS),i<=N/\ov=.int .i64 (-1)/\iv=.int .i64 i/\Hid (gW wr y n s')/\Hid (s'.jF (N-i)=R)/\Hid (ag y.fp w wr)/\Hid (aF wr w.heap.size 34 #[.pointer (some ⟨y.pb,0,none⟩)])) (λ_ iv _=>N-(intOf iv).toNat)
  case atStart=>exact⟨0,s,bf _,rfl,rfl,H1,xh (by rw[Nat.sub_zero];exact HR.o),xh (.ai O1.o),B1⟩
  case round=>
   obtain⟨i,s',hi,rfl,rfl,HA,HS,HO,HQ⟩:=hrel
   by_cases h:i<N
   .have KN:=xh (TK HA.o (HQ.o.ab (i:=0) rfl) NP.o);have q2:=HQ.o.ab (i:=0) rfl;have p2:=HA.o.p2;have hI:(i:Int)<(N:Int):=by omega
    have hf:=jt HA.o.lh;have hS:=HS.o;rw[show N-i=(N-(i+1))+1 from by omega]at hS;unfold PS.jF at hS;generalize GZ:im s'.l s'.hand=f at *;have HF:=xh hf;clear hf GZ;go_wp2_with fail;refine KN.o.mono ?_;rintro e w2 ⟨rfl,A2,o2⟩;have A2:=xh A2;have o2r:=o2;have o2:=xh (HO.o.trans o2r);obtain⟨_,_,x2,_,x4⟩:=A2.o.yD s'.hand f HF.o;have HF5:=xh (A2.o.fE s'.hand 4 (by omega) {f with used:=false} (.bool false) HF.o rfl);have z5:=HF5.o.1
    have HQ2:=xh (HQ.o.only o2r NF.o);clear o2r q2 p2
    by_cases h1:0<f.held
    .rw[if_pos h1]at hS;have HS:=xh hS;clear hS;generalize f.held=fh at *;go_wp2_with fail;go_roundw
     case rel=>exact⟨i+1,s'.turn,by omega,rfl,by go_num,A2,HS,o2,HQ2⟩
     case measure=>simp[intOf];omega
    .rw[if_neg h1]at hS
     by_cases h2:f.used=true
     .rw[if_pos h2]at hS;rw[h2]at x4;have HS:=xh hS;have A5:=xh HF5.o.2.1;have O5:=xh (o2.o.trans HF5.o.2.2);have HQ5:=xh (HQ2.o.only HF5.o.2.2 NF.o);clear hS h2 HF5;generalize f.held=fh at *;go_wp2_with fail;go_roundw
      case rel=>exact⟨i+1,_,by omega,rfl,by go_num,A5,HS,O5,HQ5⟩
      case measure=>simp[intOf];omega
     .have h3:f.used=false:=by simpa using h2
      rw[if_neg h2]at hS;rw[h3]at x4;subst hS;clear h2 HF5 HS HR;generalize f.held=fh at *;go_wp2_with fail;rw[Exit.noGoto_ret];go_ret;exact aP ⟨A2.o,o2.o⟩
   .have hiN:i=N:=by omega
    subst hiN;have hS:=HS.o;rw[fM]at hS;unfold PS.jF at hS;subst hS;go_wp2_with fail;rw[Exit.noGoto_ret];go_ret;exact aP ⟨HA.o,HO.o⟩
 .rw[e,if_pos (by omega)]at hR;rw[e]at KI;subst hR;have P0:(0:Int)<=(k:Int):=by omega
  clear e hf;go_enter func229,ntmps229;go_wp2_with fail
  go_step3
  go_wp2_with fail;refine KI.o.mono ?_;rintro e w1 ⟨rfl,bg⟩;have O1:=xh (aC O0.o bg);have H1:=xh (H0.o.below bg);clear bg;go_wp2_with fail;rw[Exit.noGoto_ret];go_ret;exact aP ⟨H1.o,.ai O1.o⟩
theorem Ky{w:World}{y:Y}{n:Nat}{s:PS}(h:gW w y n s)(k:Nat){f:Fr}(hf:s.l[k]?=some f)(hd:f.bX=false):
  Calls prog 99 #[pp y.pb,.int .i64 (k:Nat)] w λe w'=>e=.returned (.int .i64 0)/\Below w.heap.size w w':=by
 have hk:k<s.l.length:=(aM.1 hf).1;have p1:=h.p1;have l2:=h.l2;have Kp:(k:Int)<(s.l.length:Int):=by omega
 obtain⟨_,_,_,c3,_⟩:=h.yD k f hf;rw[hd]at c3;have OB:=xh (Below.refl w.heap.size w);clear h hf hd;unfold pp at *;go_enter func99,ntmps99;go_wp2_with fail;go_ret;exact aP OB.o
variable{w:World}{y:Y}{n:Nat}{s:PS}
theorem TM(h:gW w y n s)(p:Int)(k:Nat){f:Fr}(hk:findF s.l p=(k:Nat))(hf:s.l[k]?=some f)(hb: -1000<=f.held/\f.held<=4000000000000):
  Calls prog 213 #[pp y.pb,.int .i64 p] w λe w'=>e=.returned (.tuple #[.string f.fO,.int .i64 0])/\gW w' y n {s with l:=s.l.set k {f with held:=f.held+1,used:=true}}/\ag y.fp w w':=by
 have KF:=xh (iF h p);rw[hk]at KF;have kE:k<s.l.length:=(aM.1 hf).1;have Kp:(k:Int)<(s.l.length:Int):=by omega
 have P0:(0:Int)<=(k:Int):=by omega
 have HB:=xh (λw' (hb:Below w.heap.size w w')=>h.below hb);have m1:IntKind.i64.wrap (f.held+1)=f.held+1:=IntWalk.i64_in _ (by omega);have HF:=xh hf;have HL:=xh h.l2;clear h hk hf hb;unfold pp at *;go_enter func213,ntmps213;go_wp2_with fail;refine KF.o.mono ?_;rintro e w1 ⟨rfl,bg⟩;have O1:=xh bg;have A1:=HB.o w1 bg;have p1:=A1.p1;have A2:=A1.fE k 2 (by omega) {f with held:=f.held+1} (.int .i64 (f.held+1)) HF.o rfl;obtain⟨z1,A3,o3⟩:=A2
 have Ch:(s.l.set k {f with held:=f.held+1})[k]?=some {f with held:=f.held+1}:=by rw[dI kE]
 obtain⟨z2,A4,o4⟩:=A3.fE k 4 (by omega) {f with held:=f.held+1,used:=true} (.bool true) Ch rfl;have hf4:((s.l.set k {f with held:=f.held+1}).set k {f with held:=f.held+1,used:=true})[k]?=some {f with held:=f.held+1,used:=true}:=by rw[dI (by simpa using kE)]
 obtain⟨_,x1,_,_,_⟩:=A4.yD k _ hf4;obtain⟨_,_,y2,_,_⟩:=A1.yD k f HF.o;obtain⟨_,_,_,_,y4⟩:=A3.yD k _ Ch;simp only[jS]at A4;have AZ:=xh A4;have OZ:=xh ((ag.ai (S:=y.fp) O1.o).trans (o3.trans o4));clear bg A1 A3 A4 o3 o4 Ch hf4;go_wp2_with fail;go_ret2;exact aP ⟨AZ.o,OZ.o⟩
theorem TN(h:gW w y n s)(p:Int)(hk:findF s.l p= -1)(hr:(s.c.aK n p).2≠0):
  Calls prog 213 #[pp y.pb,.int .i64 p] w λe w'=>e=.returned (.tuple #[.string ⟨#[]⟩,.int .i64 (s.c.aK n p).2])/\Below w.heap.size w w':=by
 have KF:=xh (iF h p);rw[hk]at KF;have HB:=xh (λw' (hb:Below w.heap.size w w')=>h.below hb);have KR:=xh (λw' (hb:Below w.heap.size w w')=>nC (h.below hb).hs p);have hq:((s.c.aK n p).2==0)=false:=by rw[beq_eq_false_iff_ne];exact hr
 have kh:((s.c.aK n p).2 != 0)=true:=by rw[bne_iff_ne];exact hr
 generalize s.c.aK n p=R at *;clear h hk;unfold pp sp at *;go_enter func213,ntmps213;go_wp2_with fail;refine KF.o.mono ?_;rintro e w1 ⟨rfl,bg⟩;have O1:=xh bg;have p0:=(HB.o w1 bg).p0;clear bg;go_wp2_with fail;refine(KR.o w1 O1.o).mono ?_;rintro e w2 ⟨rfl,dn⟩;have O2:=xh (aC O1.o dn);clear dn;go_wp2_with fail;go_ret2;exact aP O2.o
theorem Qb(h:gW w y n s)(p:Int)(hk:findF s.l p= -1)(hr:(s.c.aK n p).2=0)(hv:s.aH.2<0):
  Calls prog 213 #[pp y.pb,.int .i64 p] w λe w'=>e=.returned (.tuple #[.string ⟨#[]⟩,.int .i64 12])/\gW w' y n s.aH.1/\ag y.fp w w':=by
 have KF:=xh (iF h p);rw[hk]at KF;have HB:=xh (λw' (hb:Below w.heap.size w w')=>h.below hb);have KR:=xh (λw' (hb:Below w.heap.size w w')=>nC (h.below hb).hs p);have KV:=xh (λw' (hb:Below w.heap.size w w')=>zA (h.below hb));rw[hr]at KR;generalize (s.c.aK n p).1=R at *;generalize s.aH=V at *;clear h hk;unfold pp sp at *;go_enter func213,ntmps213;go_wp2_with fail;refine KF.o.mono ?_;rintro e w1 ⟨rfl,bg⟩;have O1:=xh bg
 have p0:=(HB.o w1 bg).p0;clear bg;go_wp2_with fail;refine(KR.o w1 O1.o).mono ?_;rintro e w2 ⟨rfl,dn⟩;have O2:=xh (aC O1.o dn);clear dn;go_wp2_with fail;refine(KV.o w2 O2.o).mono ?_;rintro e w3 ⟨rfl,A3,o3⟩;have A3:=xh A3;have o3:=xh ((ag.ai (S:=y.fp) O2.o).trans o3);go_wp2_with fail;go_ret2;exact aP ⟨A3.o,o3.o⟩
variable{w:World}{y:Y}{n:Nat}{s:PS}{f:Fr}
theorem gW.same{w':World}{c':C}(h:gW w y n s)(A:At w' y.x n c')(o:ag y.x.fp w w'):gW w' y n {s with c:=c'}/\ag y.fp w w':=
 ⟨⟨h.hp.only o h.n1,h.hf.only o (λg hg=>by simp[ah]at hg;subst hg;exact h.n2),A,h.n1,h.n2,h.l1,h.l2,h.lh⟩,o.mono (λg hg _=>by simp[Y.fp,hg])⟩
theorem KK(h:gW w y n s)(p:Int)(k:Nat)(hk:findF s.l p=(k:Nat))(hf:s.l[k]?=some f)(hh:0<f.held):
  Calls prog 132 #[pp y.pb,.int .i64 p] w λe w'=>e=.returned (.int .i64 16)/\Below w.heap.size w w':=by
 have KF:=xh (iF h p);rw[hk]at KF;have HB:=xh (λw' (hb:Below w.heap.size w w')=>h.below hb);have kE:k<s.l.length:=(aM.1 hf).1;have Kp:(k:Int)<(s.l.length:Int):=by omega
 have P0:(0:Int)<=(k:Int):=by omega
 have HF:=xh hf;have l2:=h.l2;clear h hk hf;unfold pp at *;go_enter func132,ntmps132;go_wp2_with fail;refine KF.o.mono ?_;rintro e w1 ⟨rfl,bg⟩;have O1:=xh bg;have A1:=xh (HB.o w1 bg);have p0:=A1.o.p0;have p1:=A1.o.p1;obtain⟨_,_,c2,_,_⟩:=A1.o.yD k f HF.o;clear bg;go_wp2_with fail;go_ret;exact aP O1.o
theorem Qc(h:gW w y n s)(p:Int)(hk:findF s.l p= -1):
  Calls prog 132 #[pp y.pb,.int .i64 p] w λe w'=>e=.returned (.int .i64 (s.c.aR p).2)/\gW w' y n {s with c:=(s.c.aR p).1}/\ag y.fp w w':=by
 have KF:=xh (iF h p);rw[hk]at KF;have HB:=xh (λw' (hb:Below w.heap.size w w')=>h.below hb);have KD:=xh (λw' (hb:Below w.heap.size w w')=>GW (h.below hb).hs p);have HP:=xh (λw1 (hb:Below w.heap.size w w1) w2 (A:At w2 y.x n (s.c.aR p).1) (o:ag y.x.fp w1 w2)=>(h.below hb).same A o);generalize s.c.aR p=R at *;obtain⟨R1,R2⟩:=R;dsimp only at *;clear h hk;unfold sp at *;unfold pp at *;go_enter func132,ntmps132;go_wp2_with fail
 refine KF.o.mono ?_;rintro e w1 ⟨rfl,bg⟩;have O1:=xh bg;have A1:=xh (HB.o w1 bg);have p0:=A1.o.p0;have p1:=A1.o.p1;clear bg;go_wp2_with fail;refine(KD.o w1 O1.o).mono ?_;rintro e w2 ⟨rfl,A2,o2⟩;have A3:=xh (HP.o w1 O1.o w2 A2 o2);clear A2 o2
 by_cases h0:R2=0
 .subst h0;go_wp2_with fail;go_ret;exact⟨by first|rfl|(simp;done)|(simp[h0];done)|simp_all,A3.o.1,(ag.ai (S:=y.fp) O1.o).trans A3.o.2⟩
 .have hq:(R2 != 0)=true:=by rw[bne_iff_ne];exact h0
  have kh:(R2==0)=false:=by rw[beq_eq_false_iff_ne];exact h0
  go_wp2_with fail;go_ret;exact⟨by first|rfl|(simp;done)|(simp[h0];done)|simp_all,A3.o.1,(ag.ai (S:=y.fp) O1.o).trans A3.o.2⟩
theorem gW.KQ(h:gW w y n s)(k:Nat)(hf:s.l[k]?=some f):
  w.frozen? ⟨y.fg,k*5,none⟩=false/\w.frozen? ⟨y.fg,k*5+1,none⟩=false/\w.frozen? ⟨y.fg,k*5+2,none⟩=false/\w.frozen? ⟨y.fg,k*5+3,none⟩=false/\w.frozen? ⟨y.fg,k*5+4,none⟩=false/\
  gW (((((w.setCell ⟨y.fg,k*5,none⟩ (.int .i64 (-1))).setCell ⟨y.fg,k*5+1,none⟩ (.string ⟨#[]⟩)).setCell ⟨y.fg,k*5+2,none⟩ (.int .i64 0)).setCell ⟨y.fg,k*5+3,none⟩ (.bool false)).setCell ⟨y.fg,k*5+4,none⟩ (.bool false)) y n {s with l:=s.l.set k Fr.nil}/\
  ag y.fp w (((((w.setCell ⟨y.fg,k*5,none⟩ (.int .i64 (-1))).setCell ⟨y.fg,k*5+1,none⟩ (.string ⟨#[]⟩)).setCell ⟨y.fg,k*5+2,none⟩ (.int .i64 0)).setCell ⟨y.fg,k*5+3,none⟩ (.bool false)).setCell ⟨y.fg,k*5+4,none⟩ (.bool false)):=by
 have kE:k<s.l.length:=(aM.1 hf).1;obtain⟨z0,B0,q0⟩:=h.fE k 0 (by omega) {f with an:= -1} (.int .i64 (-1)) hf rfl;rw[kY]at z0 B0 q0;have g0:(s.l.set k {f with an:= -1})[k]?=some {f with an:= -1}:=by rw[dI kE]
 obtain⟨_,B1,q1⟩:=B0.fE k 1 (by omega) {f with an:= -1,fO:=⟨#[]⟩} (.string ⟨#[]⟩) g0 rfl;simp only[jS]at B1;have g1:(s.l.set k {f with an:= -1,fO:=⟨#[]⟩})[k]?=some {f with an:= -1,fO:=⟨#[]⟩}:=by rw[dI kE]
 obtain⟨_,B2,q2⟩:=B1.fE k 2 (by omega) {f with an:= -1,fO:=⟨#[]⟩,held:=0} (.int .i64 0) g1 rfl;simp only[jS]at B2;have g2:(s.l.set k {f with an:= -1,fO:=⟨#[]⟩,held:=0})[k]?=some {f with an:= -1,fO:=⟨#[]⟩,held:=0}:=by rw[dI kE]
 obtain⟨_,B3,q3⟩:=B2.fE k 3 (by omega) {f with an:= -1,fO:=⟨#[]⟩,held:=0,bX:=false} (.bool false) g2 rfl;simp only[jS]at B3;have g3:(s.l.set k {f with an:= -1,fO:=⟨#[]⟩,held:=0,bX:=false})[k]?=some {f with an:= -1,fO:=⟨#[]⟩,held:=0,bX:=false}:=by rw[dI kE]
 obtain⟨_,B4,q4⟩:=B3.fE k 4 (by omega) Fr.nil (.bool false) g3 rfl;simp only[jS]at B4;obtain⟨rest,B,hr,_,_⟩:=h.hf.uP;have hl:=mx s.l;have fz:∀j,j<5->w.frozen? ⟨y.fg,k*5+j,none⟩=false:=λj hj=>B.frozen _ (by simp;omega);exact⟨fz 0 (by omega),fz 1 (by omega),fz 2 (by omega),fz 3 (by omega),fz 4 (by omega),B4,(((q0.trans q1).trans q2).trans q3).trans q4⟩
theorem TO(h:gW w y n s)(p:Int)(k:Nat)(hk:findF s.l p=(k:Nat))(hf:s.l[k]?=some f)(hh:f.held=0):
  Calls prog 132 #[pp y.pb,.int .i64 p] w λe w'=>e=.returned (.int .i64 (s.c.aR p).2)/\gW w' y n (if(s.c.aR p).2=0 then {s with c:=(s.c.aR p).1,l:=s.l.set k Fr.nil}else {s with c:=(s.c.aR p).1})/\ag y.fp w w':=by
 have KF:=xh (iF h p);rw[hk]at KF;have KE:=xh l7;unfold Fr.nil Fr.agg at KE;have HB:=xh (λw' (hb:Below w.heap.size w w')=>h.below hb);have kE:k<s.l.length:=(aM.1 hf).1;have Kp:(k:Int)<(s.l.length:Int):=by omega
 have P0:(0:Int)<=(k:Int):=by omega
 have HF:=xh hf;have KD:=xh (λw' (hb:Below w.heap.size w w')=>GW (h.below hb).hs p);have HP:=xh (λw1 (hb:Below w.heap.size w w1) w2 (A:At w2 y.x n (s.c.aR p).1) (o:ag y.x.fp w1 w2)=>(h.below hb).same A o);have l2:=h.l2;generalize s.c.aR p=R at *;obtain⟨R1,R2⟩:=R;dsimp only at *;clear h hk hf;unfold sp at *
 by_cases h0:R2=0
 .subst h0;rw[if_pos rfl];unfold pp at *;go_enter func132,ntmps132;go_wp2_with fail;refine KF.o.mono ?_;rintro e w1 ⟨rfl,bg⟩;have O1:=xh bg;have A1:=xh (HB.o w1 bg);have p0:=A1.o.p0;have p1:=A1.o.p1;obtain⟨_,_,c2,_,_⟩:=A1.o.yD k f HF.o;rw[hh]at c2;clear bg hh;go_wp2_with fail;refine(KD.o w1 O1.o).mono ?_;rintro e w2 ⟨rfl,A2,o2⟩;have A3:=xh (HP.o w1 O1.o w2 A2 o2);clear A2 o2 p0 p1 c2;have AD:=xh (A3.o.1.drew)
  have OD:=xh ((((ag.refl y.fp w).trans (ag.ai O1.o)).trans A3.o.2).drew);have P1D:=xh AD.o.p1;clear A3;go_wp2_with fail;refine wp_region_held_drew (S:=λW'=>W'.cell? ⟨y.pb,1,none⟩=some (.slice (some ⟨y.fg,0,none⟩) s.l.length y.cp)) (by kernel_rfl) (P1D.o) (λau=>?_);refine cP [(0,39),(1,40),(2,41),(3,42),(4,43)] ?_
  iterate 5 refine bj ?_
  refine cQ 5 44 λK hK=>?_;go_simp
  go_at_call 86
  refine(KE.o _).mono ?_;rintro e w6 ⟨rfl,sE⟩;have A6:=xh (AD.o.below sE);have O6:=xh (OD.o.trans (ag.ai (S:=y.fp) sE));have p1y:=A6.o.p1;clear sE;refine bz hK (p1y) (λau=>?_);refine cP [(6,45)] ?_
  iterate 1 refine bj ?_
  refine nB 7 λK hK=>?_;go_simp;have p1x:=A6.o.p1;have l2x:=A6.o.l2;obtain⟨c0,c1,c2,c3,c4⟩:=A6.o.yD k f HF.o;obtain⟨z0,z1,z2,z3,z4,B4,q4⟩:=A6.o.KQ k HF.o;have AZ:=xh B4;have OZ:=xh (O6.o.trans q4);clear B4 q4;go_simp;refine hK.o _ _ (by have:=AZ.o.p1;simpa using this) (λau=>?_)
  try simp only[Act.put,pa,pb,pc]
  refine wpAnyH_done (by kernel_rfl) ?_ _;go_wp2_with fail;go_ret;exact aP ⟨AZ.o,OZ.o⟩
 .have hq:(R2 != 0)=true:=by rw[bne_iff_ne];exact h0
  have kh:(R2==0)=false:=by rw[beq_eq_false_iff_ne];exact h0
  rw[if_neg h0];unfold pp at *;go_enter func132,ntmps132;go_wp2_with fail;refine KF.o.mono ?_;rintro e w1 ⟨rfl,bg⟩;have O1:=xh bg;have A1:=xh (HB.o w1 bg);have p0:=A1.o.p0;have p1:=A1.o.p1;obtain⟨_,_,c2,_,_⟩:=A1.o.yD k f HF.o;rw[hh]at c2;clear bg hh;go_wp2_with fail;refine(KD.o w1 O1.o).mono ?_;rintro e w2 ⟨rfl,A2,o2⟩;have A3:=xh (HP.o w1 O1.o w2 A2 o2);clear A2 o2;go_wp2_with fail;go_ret
  exact aP ⟨A3.o.1,(ag.ai (S:=y.fp) O1.o).trans A3.o.2⟩
end Sh
namespace Sh
open Go.RowKit Pk Dk Pg
variable{x:Int}{t:List Int}
theorem ly:∀(L M:List Int),L.Nodup->(∀x∈L,x∈M)->L.length<=M.length
 |[],_,_,_=>bf _
 |x::L,M,hn,hs=>by
  obtain⟨h1,h2⟩:=fu.1 hn;have hx:x∈M:=hs x (fK ..);have:=ly L (M.erase x) h2 (λy hy=>(List.mem_erase_of_ne (λe:y=x=>h1 (by rw[<-e];exact hy))).2 (hs y (aw _ hy)));rw[Sr hx]at this;have:0<M.length:=List.length_pos_of_mem hx;simp;omega
theorem pR{L M:List Int}(hl:L.Nodup)(hm:M.Nodup)(h:∀x,x∈L↔x∈M):L.length=M.length:=
 Nat.le_antisymm (ly L M hl (λx hx=>(h x).1 hx)) (ly M L hm (λx hx=>(h x).2 hx))
theorem zB(l:List Int)(k:Int)(n:Nat)(x:Int):x∈Fm.gQ l k n↔ ∃i:Nat,x=i/\i<n/\l.getD i 0=k:=by
 induction n with
 |zero=>simp[Fm.gQ]
 |succ n ih=>
  simp only[Fm.gQ,aB,ih]
  constructor
  .rintro(⟨i,e,h,g⟩|h)
   .exact⟨i,e,by omega,g⟩
   .by_cases hk:l.getD n 0=k
    .rw[if_pos hk]at h;exact⟨n,by simpa using h,by omega,hk⟩
    .rw[if_neg hk]at h;simp at h
  .rintro⟨i,e,h,g⟩
   rcases oh.1 h with h|rfl
   .exact .inl ⟨i,e,h,g⟩
   .rw[if_pos g];exact .inr (by simpa using e)
theorem fU{l:List Int}{k:Int} :x∈Fm.gu l k↔ ∃i:Nat,x=i/\i<l.length/\l.getD i 0=k:=zB l k l.length x
theorem Fg(l:List Int)(k:Int)(n:Nat):(Fm.gQ l k n).Nodup:=by
 induction n with
 |zero=>exact mP
 |succ n ih=>
  simp only[Fm.gQ]
  split
  .rw[ik];refine⟨ih,by simp,λa ha b hb e=>?_⟩;obtain⟨i,e1,h,_⟩:=(zB l k n a).1 ha;simp at hb;omega
  .simpa using ih
theorem jG(l:List Int)(k:Int):(Fm.gu l k).Nodup:=Fg l k l.length
def upto:Nat->List Int
 |0=>[]
 |n+1=>upto n++[(n:Int)]
theorem xg:∀n,(upto n).length=n
 |0=>rfl
 |n+1=>by simp[upto,xg n]
theorem G3(n:Nat)(x:Int):x∈upto n↔0<=x/\x<n:=by
 induction n with
 |zero=>simp[upto];try omega
 |succ n ih=>simp only[upto,aB,ih,aI];omega
theorem KZ(n:Nat):(upto n).Nodup:=by
 induction n with
 |zero=>exact mP
 |succ n ih=>
  simp only[upto];rw[ik];refine⟨ih,by simp,λa ha b hb e=>?_⟩;have:=(G3 n a).1 ha;simp at hb;omega
def BJ(t:List Int):Prop:= ∀(i j:Nat) (x:Int),t[i]?=some x->t[j]?=some x->0<=x->i=j
def ids(t:List Int):List Int:=t.filter (λx=>decide (0<=x))
theorem k7 :x∈ids t↔x∈t/\0<=x:=by simp[ids]
theorem BJ.tail(h:BJ (x::t)):BJ t:=λi j y hi hj h0=>by
 have:=h (i+1) (j+1) y (by simpa using hi) (by simpa using hj) h0;omega
theorem jH:∀{t:List Int},BJ t->(ids t).Nodup
 |[],_=>mP
 |x::t,h=>by
  have ih:=jH h.tail;unfold ids at ih ⊢;rw[jQ]
  split
  .rename_i hx;rw[fu];refine⟨λhm=>?_,ih⟩;obtain⟨hm,_⟩:=k7.1 hm;obtain⟨k,hk⟩:=kr hm;have:=h 0 (k+1) x rfl (by simpa using hk) (by simpa using hx);omega
  .exact ih
theorem BJ.bU(h:BJ t)(k:Nat)(u:Int)(hu:u<0\/u∉t):BJ (t.set k u):=by
 intro i j x hi hj h0;rw[iy]at hi hj
 by_cases e1:k=i<;>by_cases e2:k=j
 .omega
 .rw[if_pos e1]at hi;rw[if_neg e2]at hj
  split at hi
  .injection hi with hi
   subst hi
   rcases hu with hu|hu
   .omega
   .exact absurd (ay hj) hu
  .cases hi
 .rw[if_neg e1]at hi;rw[if_pos e2]at hj
  split at hj
  .injection hj with hj
   subst hj
   rcases hu with hu|hu
   .omega
   .exact absurd (ay hi) hu
  .cases hj
 .rw[if_neg e1]at hi;rw[if_neg e2]at hj;exact h i j x hi hj h0
theorem BJ.app(h:BJ t)(u:Int)(hu:u<0\/u∉t):BJ (t++[u]):=by
 intro i j x hi hj h0;have key:∀i,(t++[u])[i]?=some x->(t[i]?=some x)\/(i=t.length/\x=u):=by
  intro i hi
  rcases Nat.lt_trichotomy i t.length with hl|rfl|hl
  .rw[bE hl]at hi;exact .inl hi
  .rw[dR (Nat.le_refl _)]at hi;simp at hi;exact .inr ⟨rfl,hi.symm⟩
  .rw[dR (by omega),fG (by simp;omega)]at hi;cases hi
 rcases key i hi with a|⟨a,b⟩<;>rcases key j hj with c|⟨c,d⟩
 .exact h i j x a c h0
 .subst d
  rcases hu with hu|hu
  .omega
  .exact absurd (ay a) hu
 .subst b
  rcases hu with hu|hu
  .omega
  .exact absurd (ay c) hu
 .omega
theorem G4{k:Nat}{u:Int}(h:BJ t)(hk:t[k]?=some u)(v:Int)(h0:0<=x)(hv:v<0)(hu:0<=u):x∈t.set k v↔x∈t/\x≠u:=by
 constructor
 .intro hx;obtain⟨i,hi⟩:=kr hx;rw[iy]at hi
  by_cases e:k=i
  .rw[if_pos e]at hi
   split at hi
   .injection hi with hi;omega
   .cases hi
  .rw[if_neg e]at hi;refine⟨ay hi,λe2=>e ?_⟩;subst e2;exact h k i x hk hi h0
 .rintro⟨hx,fc⟩;obtain⟨i,hi⟩:=kr hx;have:(t.set k v)[i]?=some x:=by
   rw[iy,if_neg (λe=>fc (by subst e;rw[hk]at hi;injection hi with hi;exact hi.symm))];exact hi
  exact ay this
structure St where
 many:Nat
 now:List (Option (Bool×List UInt8))
 bQ:List (Option (List UInt8))
 ep:Int
def cJ:Option (Bool×List UInt8)->Bool
 |some (b,_)=>b
 |none=>false
def cB(k:Nat):Nat:=(k+115) / 116
def St.fresh(a:St):Nat:=a.now.countP cJ
def St.kept(a:St):Nat:=a.bQ.countP Option.isSome+cB a.bQ.length
def St.free(a:St):Nat:=a.many-a.kept-a.fresh
def St.slot(a:St):Nat:=a.now.findIdx Option.isNone
def nF{α:Type}(t:List α)(l:Nat)(u:α):List α:=if l=t.length then t++[u]else t.set l u
def St.at(a:St)(l:Int):Option (Bool×List UInt8):=if 0<=l then(a.now[l.toNat]?).getD none else none
def St.bJ(a:St)(p:List UInt8):St×Int×Int:=
 if 232<p.length then(a,0,4)
 else if 512<=a.slot\/a.free=0 then(a,0,11)
 else({a with now:=nF a.now a.slot (some (true,eO p 232))},(a.slot:Nat),0)
def St.aR(a:St)(l:Int):St×Int:=if(a.at l).isSome=true then({a with now:=a.now.set l.toNat none},0)else(a,3)
def St.aK(a:St)(l:Int):List UInt8×Int:=match a.at l with
 |some (_,b)=>(b,0)
 |none=>([],3)
def TP(d:D)(n:Nat)(x ep:Int):Prop:= ∃q s,0<=q/\q<=ep/\s.length=232/\bs d n x=(⟨x,q,2,s⟩,0)
def cC(c:C)(x:Int):Int:=if x∈c.parts then 1 else if x∈c.bQ then(if x∈c.table then 1 else 3)else if x∈c.table then 2 else 0
structure Good(c:C)(n:Nat):Prop where
 up:c.d.down=false
 arm:c.d.bn=0
 br:c.broken=false
 ok:c.d.Ok n
 ml:c.m.length=eY n
 ep:1<=c.ep/\c.ep<1099511627776
 sl:c.slot=0\/c.slot=1
 ti:∀x∈c.table,x= -1\/(0<=x/\x<c.m.length)
 oi:∀x∈c.bQ,x= -1\/(0<=x/\x<c.m.length)
 pi:∀x∈c.parts,0<=x/\x<c.m.length
 tj:BJ c.table
 oj:BJ c.bQ
 pj:BJ c.parts
 dt:∀x∈c.parts,x∉c.table/\x∉c.bQ
 pl:c.parts.length=cB c.bQ.length
 sm:∀(i:Nat) (x:Int),c.table[i]?=some x->0<=x->x∈c.bQ->c.bQ[i]?=some x
 md:∀i:Nat,i<c.m.length->c.m.getD i 0=cC c i
 rt:∀x∈c.table,0<=x->TP c.d n x (c.ep+1)
 ro:∀x∈c.bQ,0<=x->TP c.d n x c.ep
def C.cK(c:C)(n:Nat)(x:Int):Option (Bool×List UInt8):=if x<0 then none else some (decide (x∉c.bQ),(bs c.d n x).1.s)
def C.bP(c:C)(n:Nat):St:={many:=c.m.length,now:=c.table.map (c.cK n),bQ:=c.bQ.map λx=>if x<0 then none else some (bs c.d n x).1.s,ep:=c.ep}
theorem my{c:C}{n:Nat}(g:Good c n):(Fm.gu c.m 0).length=(c.bP n).free/\(c.bP n).fresh+(c.bP n).kept<=c.m.length:=by
 obtain⟨F,hF⟩:∃F,F=(ids c.table).filter (λx=>decide (x∉c.bQ)):=⟨_,rfl⟩;have hFl:F.length=(c.bP n).fresh:=by
  rw[hF];unfold St.fresh C.bP ids;rw[Eh,<-yT,Ed];apply sk;intro x hx;simp only[Function.comp,C.cK]
  by_cases h:x<0
  .rw[if_pos h];simp[cJ];omega
  .rw[if_neg h];simp[cJ];omega
 have hKl:(c.parts++ids c.bQ).length=(c.bP n).kept:=by
  unfold St.kept C.bP ids;rw[aO,g.pl,<-yT,Ed,eM];have:c.bQ.countP (λx=>decide (0<=x))=c.bQ.countP (Option.isSome ∘ λx=>if x<0 then none else some (bs c.d n x).1.s):=by
   apply sk;intro x hx;simp only[Function.comp]
   by_cases h:x<0
   .rw[if_pos h];simp;omega
   .rw[if_neg h];simp;omega
  omega
 have hmF:∀x,x∈F↔x∈c.table/\0<=x/\x∉c.bQ:=by
  intro x;rw[hF,ij,k7];simp[and_assoc]
 have Ct:(Fm.gu c.m 0++F++(c.parts++ids c.bQ)).Nodup:=by
  rw[ik,ik,ik];have hp:c.parts.Nodup:=by
   have:=jH g.pj
   rwa [show ids c.parts=c.parts from vd.2 (λx hx=>by simpa using (g.pi x hx).1)]at this
  refine⟨⟨jG _ _,?_,?_⟩,⟨hp,jH g.oj,?_⟩,?_⟩
  .rw[hF];exact(jH g.tj).sublist Ei
  .intro x hx y hy e;subst e;obtain⟨i,rfl,hi,h0⟩:=fU.1 hx;rw[g.md i hi]at h0;obtain⟨h1,h2,h3⟩:=(hmF _).1 hy;unfold cC at h0;rw[if_neg h3,if_pos h1]at h0
   split at h0<;>omega
  .intro x hx y hy e;subst e;exact(g.dt x hx).2 (k7.1 hy).1
  .intro x hx y hy e;subst e
   rcases aB.1 hx with hx|hx
   .obtain⟨i,rfl,hi,h0⟩:=fU.1 hx;rw[g.md i hi]at h0;unfold cC at h0
    rcases aB.1 hy with hy|hy
    .rw[if_pos hy]at h0;omega
    .rw[if_pos (k7.1 hy).1]at h0
     split at h0
     .omega
     .split at h0<;>omega
   .obtain⟨h1,h2,h3⟩:=(hmF _).1 hx
    rcases aB.1 hy with hy|hy
    .exact(g.dt x hy).1 h1
    .exact h3 (k7.1 hy).1
 have hlen:=pR Ct (KZ c.m.length) (λx=>by
  rw[G3,aB,aB,aB,fU,hmF,k7]
  constructor
  .rintro((⟨i,rfl,hi,_⟩|⟨h1,h2,_⟩)|(h|⟨h1,h2⟩))
   .omega
   .have:=g.ti x h1;omega
   .exact g.pi x h
   .have:=g.oi x h1;omega
  .rintro⟨h0,h1⟩
   by_cases a1:x∈c.parts
   .exact .inr (.inl a1)
   by_cases a2:x∈c.bQ
   .exact .inr (.inr ⟨a2,h0⟩)
   by_cases a3:x∈c.table
   .exact .inl (.inr ⟨a3,h0,a2⟩)
   refine .inl (.inl ⟨x.toNat,by omega,by omega,?_⟩);rw[g.md _ (by omega),show((x.toNat:Nat):Int)=x by omega];unfold cC;rw[if_neg a1,if_neg a2,if_neg a3])
 rw[xg,aO,aO,hKl,hFl]at hlen;refine⟨?_,by omega⟩;unfold St.free;show _=c.m.length-_-_;omega
variable{t:List Int}{x:Int}{c:C}{n k:Nat}
theorem xi{α β:Type}(f:α->β)(p:β->Bool)(q:α->Bool):∀(t:List α),(∀x∈t,p (f x)=q x)->(t.map f).findIdx p=t.findIdx q
 |[],_=>rfl
 |x::t,h=>by
  have h0:=h x (fK ..);have ih:=xi f p q t (λy hy=>h y (aw _ hy));rw[fJ,JS,JS,h0,ih]
theorem TR(h:iE t<t.length):t[iE t]?=some (-1):=by
 unfold iE Fm.cR at h ⊢;have:=pG (p:=(· ==(-1:Int))) (xs:=t) (w:=h);rw[aG h];simpa using this
theorem nG{α:Type}(t:List α)(l:Nat)(u:α)(hl:l<=t.length)(i:Nat):(nF t l u)[i]?=if i=l then some u else t[i]?:=by
 unfold nF
 by_cases h:l=t.length
 .rw[if_pos h];subst h
  rcases Nat.lt_trichotomy i t.length with h1|rfl|h1
  .rw[if_neg (by omega),bE h1]
  .rw[if_pos rfl,dR (Nat.le_refl _)];simp
  .rw[if_neg (by omega),dR (by omega),fG (by simp;omega),fG (by omega)]
 .rw[if_neg h,iy]
  by_cases e:l=i
  .subst e;rw[if_pos rfl,if_pos (by omega),if_pos rfl]
  .rw[if_neg e,if_neg (by omega)]
theorem yE(t:List Int)(l:Nat)(u:Int):sH t l u=nF t l u:=rfl
theorem TU{u:Int}(h0:0<=x):x∈sH t (iE t) u↔x=u\/x∈t:=by
 rw[yE];have hl:=zv t
 constructor
 .intro hx;obtain⟨i,hi⟩:=kr hx;rw[nG t _ u hl]at hi
  split at hi
  .injection hi with hi;exact .inl hi.symm
  .exact .inr (ay hi)
 .rintro(rfl|hx)
  .have:=nG t _ x hl (iE t);rw[if_pos rfl]at this;exact ay this
  .obtain⟨i,hi⟩:=kr hx;have:=nG t _ u hl i;rw[if_neg]at this
   .exact ay (this.trans hi)
   .rintro rfl;have dP:iE t<t.length:=(aM.1 hi).1;rw[TR dP]at hi;injection hi with hi
    omega
theorem BJ.sH(h:BJ t)(l:Nat)(u:Int)(hu:u∉t):BJ (sH t l u):=by
 unfold Sh.sH
 split
 .exact h.app u (.inr hu)
 .exact h.bU l u (.inr hu)
theorem TV{α β:Type}(f:α->β)(t:List α)(l:Nat)(u:α):(nF t l u).map f=nF (t.map f) l (f u):=by
 unfold nF;rw[eM]
 split
 .simp
 .rw[qL]
theorem K8{α β:Type}(f g:α->β)(t:List α)(l:Nat)(u:β)(h:∀x∈t,f x=g x):nF (t.map f) l u=nF (t.map g) l u:=by
 rw[gx h]
theorem TX(g:Good c n):(c.bP n).slot=iE c.table:=by
 unfold St.slot C.bP iE Fm.cR;refine xi _ _ _ _ (λx hx=>?_);unfold C.cK
 rcases g.ti x hx with rfl|⟨h0,_⟩
 .simp
 .rw[if_neg (by omega)];simp;omega
theorem vB(g:Good c n)(hf:(c.bP n).free≠0):∃k:Nat,k<c.m.length/\cC c k=0/\Fm.cG c.m=(c.m.set k 2,((k:Nat):Int),0):=by
 have hl:=(my g).1;obtain⟨x,hx⟩:∃x,x∈Fm.gu c.m 0:=by
  cases h:Fm.gu c.m 0 with
  |nil=>rw[h]at hl;simp at hl;omega
  |cons x l=>exact⟨x,fK ..⟩
 obtain⟨i,rfl,hi,h0⟩:=fU.1 hx;have dP:Fm.cR c.m 0<c.m.length:=by
  unfold Fm.cR;rw[JT];refine⟨c.m[i],kt hi,?_⟩;simp[List.getD,aG hi]at h0;simp[h0]
 refine⟨Fm.cR c.m 0,dP,?_,by unfold Fm.cG;rw[if_pos dP]⟩;rw[<-g.md _ dP];have:=pG (p:=(· ==(0:Int))) (xs:=c.m) (w:=dP);simp[List.getD];unfold Fm.cR at dP ⊢;rw[aG dP];simpa using this
theorem vC(g:Good c n)(hf:(c.bP n).free=0):Fm.cG c.m=(c.m,0,11):=by
 have hl:=(my g).1;rw[hf]at hl;unfold Fm.cG;rw[if_neg];intro dP;have:=pG (p:=(· ==(0:Int))) (xs:=c.m) (w:=dP);have hm:((Fm.cR c.m 0:Nat):Int)∈Fm.gu c.m 0:=fU.2 ⟨_,rfl,dP,by
  simp[List.getD];unfold Fm.cR at dP ⊢;rw[aG dP];simpa using this⟩
 rw[nc hl]at hm;simp at hm
theorem G7(h:cC c x=0):x∉c.parts/\x∉c.bQ/\x∉c.table:=by
 unfold cC at h
 split at h
 .omega
 .split at h
  .split at h<;>omega
  .split at h
   .omega
   .exact⟨by assumption,by assumption,by assumption⟩
theorem jI(g:Good c n)(h:k<c.m.length):k<ct n:=by
 have:=g.ml;unfold eY at this;omega
theorem sI{d:D}(h:d.Ok n)(id ep kd:Int)(s:List UInt8):(bm d n id ep kd s).1.Ok n:=by
 unfold bm
 split
 .exact h
 .split
  .exact h
  .exact zj h _ _ _
theorem zC(g:Good c n)(hk:k<c.m.length)(h0:cC c k=0)(p:List UInt8)(hp:p.length<=232):
  (bm c.d n k (c.ep+1) 2 p).2=0/\∀d',d'=(bm c.d n k (c.ep+1) 2 p).1->d'.down=false/\d'.bn=0/\d'.Ok n/\d'.calls<=c.d.calls+4/\bs d' n k=(⟨k,c.ep+1,2,eO p 232⟩,0)/\
   (∀x∈c.table,0<=x->bs d' n x=bs c.d n x)/\∀x∈c.bQ,0<=x->bs d' n x=bs c.d n x:=by
 have e:=g.ep;obtain⟨h1,h2,h3,h4,h5⟩:=mu g.ok g.up g.arm k (c.ep+1) 2 p (jI g hk) (by rw[oA];omega) hp;obtain⟨z1,z2,z3⟩:=G7 h0;refine⟨h1,λd' hd=>?_⟩;subst hd;refine⟨h2,h3,sI g.ok _ _ _ _,(qS _ _ _ _ _ _ (by rw[g.arm];omega)).1,h4,λx hx Fh=>?_,λx hx Fh=>?_⟩
 .have:=g.ti x hx;have:=h5 x.toNat (jI g (by omega)) (λe=>z3 (by rw[<-e];rwa [show((x.toNat:Nat):Int)=x by omega]))
  rwa [show((x.toNat:Nat):Int)=x by omega]at this
 .have:=g.oi x hx;have:=h5 x.toNat (jI g (by omega)) (λe=>z2 (by rw[<-e];rwa [show((x.toNat:Nat):Int)=x by omega]))
  rwa [show((x.toNat:Nat):Int)=x by omega]at this
theorem lz(p:List UInt8)(h:p.length<=232):(eO p 232).length=232:=by unfold eO;simp;omega
theorem jJ(l:List Int)(k:Nat)(x:Int)(i:Nat)(hi:i<l.length):(l.set k x).getD i 0=if k=i then x else l.getD i 0:=by
 simp only[List.getD,iy]
 by_cases h:k=i
 .subst h;simp[hi]
 .simp[h]
theorem new_ok{c:C}{n:Nat}(g:Good c n){k:Nat}(hk:k<c.m.length)(h0:cC c k=0)(p:List UInt8)(hp:p.length<=232){d':D}(hd:d'=(bm c.d n k (c.ep+1) 2 p).1){c':C}(hc:c'={c with m:=c.m.set k 2,d:=d',table:=sH c.table (iE c.table) k}):
  Good c' n/\c'.bP n={c.bP n with now:=nF (c.bP n).now (iE c.table) (some (true,eO p 232))}:=by
 obtain⟨_,W⟩:=zC g hk h0 p hp;obtain⟨w1,w2,w3,w4,w5,w6,w7⟩:=W d' hd;obtain⟨z1,z2,z3⟩:=G7 h0;have Gn:=g.ep;have mt:∀x,0<=x->(x∈c'.table↔x=k\/x∈c.table):=λx hx=>by subst hc;exact TU hx
 have BH:=zv c.table;have TY:∀x:Int,0<=x->cC c' x=if x=k then 2 else cC c x:=by
  intro x hx;unfold cC
  by_cases e:x=k
  .rw[if_pos e];subst e;rw[if_neg (by subst hc;exact z1),if_neg (by subst hc;exact z2),if_pos ((mt _ hx).2 (.inl rfl))]
  .rw[if_neg e];have:(x∈c'.table)↔x∈c.table:=(mt x hx).trans ⟨λh=>h.resolve_left e,.inr⟩;rw[show c'.parts=c.parts from by rw[hc],show c'.bQ=c.bQ from by rw[hc]];simp only[this]
 refine⟨⟨by rw[hc];exact w1,by rw[hc];exact w2,by rw[hc];exact g.br,by rw[hc];exact w3,?_,by rw[hc];exact g.ep,by rw[hc];exact g.sl,?_,?_,?_,?_,by rw[hc];exact g.oj,by rw[hc];exact g.pj,?_,by rw[hc];exact g.pl,?_,?_,?_,?_⟩,?_⟩
 .rw[hc];show(c.m.set k 2).length=_;rw[bW];exact g.ml
 .intro x hx;have nX:c'.m.length=c.m.length:=by rw[hc];show(c.m.set k 2).length=_;rw[bW]
  rw[nX]
  by_cases h:0<=x
  .rcases(mt x h).1 hx with rfl|hx
   .omega
   .exact g.ti x hx
  .obtain⟨i,hi⟩:=kr hx;rw[hc]at hi;have hi:(sH c.table (iE c.table) k)[i]?=some x:=hi;rw[yE,nG _ _ _ BH]at hi
   split at hi
   .injection hi with hi;omega
   .exact g.ti x (ay hi)
 .intro x hx;rw[hc]at hx ⊢;show _\/_/\x<((c.m.set k 2).length:Int);rw[bW];exact g.oi x hx
 .intro x hx;rw[hc]at hx ⊢;show _/\x<((c.m.set k 2).length:Int);rw[bW];exact g.pi x hx
 .rw[hc];exact g.tj.sH _ _ z3
 .intro x hx;have h:=g.dt x (by rw[hc]at hx;exact hx);have Fh:=(g.pi x (by rw[hc]at hx;exact hx)).1;refine⟨λh1=>?_,by rw[hc];exact h.2⟩
  rcases(mt x Fh).1 h1 with rfl|h1
  .rw[hc]at hx;exact z1 hx
  .exact h.1 h1
 .intro i x hi hx ho;rw[hc]at hi ho ⊢;have hi:(sH c.table (iE c.table) k)[i]?=some x:=hi;rw[yE,nG _ _ _ BH]at hi
  split at hi
  .injection hi with hi
   subst hi;exact absurd ho z2
  .exact g.sm i x hi hx ho
 .intro i hi;have hi:i<c.m.length:=by rw[hc]at hi;simpa using hi
  rw[TY i (by omega),<-g.md i hi,hc];show(c.m.set k 2).getD i 0=_;rw[jJ _ _ _ _ hi]
  by_cases e:k=i
  .rw[if_pos e,if_pos (by omega)]
  .rw[if_neg e,if_neg (by omega)]
 .intro x hx Fh
  rcases(mt x Fh).1 hx with rfl|hx
  .rw[hc];exact⟨c.ep+1,_,by omega,jg _,lz p hp,w5⟩
  .obtain⟨q,s,q1,q2,q3,q4⟩:=g.rt x hx Fh;rw[hc];exact⟨q,s,q1,q2,q3,(w6 x hx Fh).trans q4⟩
 .intro x hx Fh;rw[hc]at hx ⊢;obtain⟨q,s,q1,q2,q3,q4⟩:=g.ro x hx Fh;exact⟨q,s,q1,q2,q3,(w7 x hx Fh).trans q4⟩
 .rw[hc];unfold C.bP;simp only[bW,St.mk.injEq,true_and,and_true];refine⟨?_,?_⟩
  .rw[yE,TV];have e1:C.cK {c with m:=c.m.set k 2,d:=d',table:=nF c.table (iE c.table) k} n (k:Int)=some (true,eO p 232):=by
    unfold C.cK;rw[if_neg (by omega)];simp only[w5];simp[z2]
   rw[e1];refine K8 _ _ _ _ _ (λx hx=>?_);unfold C.cK
   by_cases h:x<0
   .rw[if_pos h,if_pos h]
   .rw[if_neg h,if_neg h];simp only[w6 x hx (by omega)]
  .refine gx (λx hx=>?_)
   by_cases h:x<0
   .rw[if_pos h,if_pos h]
   .rw[if_neg h,if_neg h];simp only[w7 x hx (by omega)]
theorem TZ(g:Good c n)(p:List UInt8):
  Good (c.bJ n p).1 n/\(c.bJ n p).1.bP n=((c.bP n).bJ p).1/\(c.bJ n p).2=((c.bP n).bJ p).2/\(c.bJ n p).1.d.calls<=c.d.calls+4/\(c.bJ n p).1.bQ=c.bQ/\(c.bJ n p).1.parts=c.parts:=by
 unfold C.bJ St.bJ;rw[if_neg (by rw[g.br];simp),TX g]
 by_cases h1:232<p.length
 .rw[if_pos h1,if_pos h1];exact⟨g,rfl,rfl,by show c.d.calls<=_;omega,rfl,rfl⟩
 rw[if_neg h1,if_neg h1]
 by_cases h2:512<=iE c.table
 .rw[if_pos h2,if_pos (.inl h2)];exact⟨g,rfl,rfl,by show c.d.calls<=_;omega,rfl,rfl⟩
 rw[if_neg h2]
 by_cases h3:(c.bP n).free=0
 .have ht:=vC g h3;have hf:c.bZ n p=(c,0,11):=by
   unfold C.bZ;rw[ht,if_pos (by simp)]
  rw[hf,if_pos (by simp),if_pos (.inr h3)];exact⟨g,rfl,rfl,by show c.d.calls<=_;omega,rfl,rfl⟩
 .obtain⟨k,hk,h0,ht⟩:=vB g h3;obtain⟨W0,W⟩:=zC g hk h0 p (by omega);have hf:c.bZ n p=({c with m:=c.m.set k 2,d:=(bm c.d n k (c.ep+1) 2 p).1},(k:Int),0):=by
   unfold C.bZ;rw[ht,if_neg (by simp),if_neg (by rw[W0];simp)]
  rw[hf,if_neg (by simp),if_neg (by omega)];obtain⟨G,e⟩:=new_ok g hk h0 p (by omega) rfl (c':={c with m:=c.m.set k 2,d:=(bm c.d n k (c.ep+1) 2 p).1,table:=sH c.table (iE c.table) k}) rfl;exact⟨G,e,rfl,(W _ rfl).2.2.2.1,rfl,rfl⟩
variable{c:C}{n:Nat}
theorem abs_at(l:Int):(c.bP n).at l=if 0<=l then((c.table[l.toNat]?).map (c.cK n)).getD none else none:=by
 unfold St.at C.bP;simp only[ic]
theorem yF(g:Good c n)(l:Int):(c.rM l=true↔((c.bP n).at l).isSome=true)/\(c.rM l=true->∃k x:Nat,l=k/\c.table[k]?=some (x:Int)/\(x:Int)<c.m.length/\(c.bP n).at l=c.cK n x):=by
 rw[abs_at];have key:c.rM l=true↔0<=l/\∃x,c.table[l.toNat]?=some x/\0<=x:=by
  unfold C.rM;simp only[ig,decide_eq_true_eq]
  constructor
  .rintro⟨⟨h1,h2⟩,h3⟩;refine⟨h1,c.table.getD l.toNat 0,?_,h3⟩;rw[aG (by omega)];simp[List.getD,aG (show l.toNat<c.table.length by omega)]
  .rintro⟨h1,x,h2,h3⟩;have hl:l.toNat<c.table.length:=(aM.1 h2).1;refine⟨⟨h1,by omega⟩,?_⟩;simp[List.getD,h2];exact h3
 rw[key]
 constructor
 .constructor
  .rintro⟨h1,x,h2,h3⟩;rw[if_pos h1,h2];simp[C.cK];omega
  .intro h
   by_cases h1:0<=l
   .rw[if_pos h1]at h;refine⟨h1,?_⟩
    cases h2:c.table[l.toNat]? with
    |none=>rw[h2]at h;simp at h
    |some x=>
     refine⟨x,rfl,?_⟩;rw[h2]at h;simp[C.cK]at h;omega
   .rw[if_neg h1]at h;simp at h
 .rintro⟨h1,x,h2,h3⟩;have:=g.ti x (ay h2);obtain⟨xn,rfl⟩:=eT h3;refine⟨l.toNat,xn,by omega,h2,by omega,?_⟩;rw[if_pos h1,h2];rfl
theorem zD(g:Good c n)(l:Int):c.jD l=if c.rM l=true then 0 else 3:=by
 unfold C.jD;rw[if_neg (by rw[g.br];simp)]
theorem vD(g:Good c n)(l:Int):c.aK n l=(c.bP n).aK l:=by
 obtain⟨h1,h2⟩:=yF g l;unfold C.aK St.aK;rw[zD g]
 by_cases hh:c.rM l=true
 .obtain⟨k,x,rfl,hk,hx,e⟩:=h2 hh;rw[if_pos hh,if_neg (by simp),e];obtain⟨q,s,q1,q2,q3,q4⟩:=g.rt x (ay hk) (by omega);have e2:c.table.getD ((k:Nat):Int).toNat 0=(x:Int):=by rw[show((k:Nat):Int).toNat=k by omega];simp[List.getD,hk]
  rw[e2,q4,if_neg (by simp)];unfold C.cK;rw[if_neg (by omega),q4]
 .rw[if_neg hh,if_pos (by simp)];have:((c.bP n).at l)=none:=by
   cases h:(c.bP n).at l with
   |none=>rfl
   |some v=>exact absurd (h1.2 (by rw[h];rfl)) hh
  rw[this]
theorem Ha(g:Good c n){l:Int}(h:((c.bP n).aK l).2=0):((c.bP n).aK l).1.length=232:=by
 obtain⟨h1,h2⟩:=yF g l
 by_cases hh:c.rM l=true
 .obtain⟨k,x,rfl,hk,hx,e⟩:=h2 hh;obtain⟨q,s,q1,q2,q3,q4⟩:=g.rt x (ay hk) (by omega);unfold St.aK;rw[e];unfold C.cK;rw[if_neg (by omega),q4];exact q3
 .have:((c.bP n).at l)=none:=by
   cases h:(c.bP n).at l with
   |none=>rfl
   |some v=>exact absurd (h1.2 (by rw[h];rfl)) hh
  unfold St.aK at h;rw[this]at h;simp at h
theorem Qd(g:Good c n)(l:Int):
  Good (c.aR l).1 n/\(c.aR l).1.bP n=((c.bP n).aR l).1/\(c.aR l).2=((c.bP n).aR l).2/\(c.aR l).1.d=c.d/\(c.aR l).1.bQ=c.bQ/\(c.aR l).1.parts=c.parts:=by
 obtain⟨h1,h2⟩:=yF g l;unfold C.aR St.aR;rw[zD g]
 by_cases hh:c.rM l=true
 .obtain⟨k,x,rfl,hk,hx,e⟩:=h2 hh;have e2:c.table.getD ((k:Nat):Int).toNat 0=(x:Int):=by rw[show((k:Nat):Int).toNat=k by omega];simp[List.getD,hk]
  have hxt:=ay hk;have hxp:(x:Int)∉c.parts:=λh=>(g.dt _ h).1 hxt;rw[if_pos hh,if_neg (by simp),if_pos (h1.1 hh),e2,show((k:Nat):Int).toNat=k by omega];have NU:x<c.m.length:=by omega
  have rV:Fm.Ce c.m (x:Int)=true:=by unfold Fm.Ce;simp;omega
  have hkx:=g.md x NU;obtain⟨u,hu,hu2⟩:∃u,(Fm.dD c.m (x:Int)).1=c.m.set x u/\u=if(x:Int)∈c.bQ then 3 else 0:=by
   unfold Fm.dD;rw[if_pos rV,show((x:Nat):Int).toNat=x by omega,hkx];unfold cC;rw[if_neg hxp]
   by_cases ho:(x:Int)∈c.bQ
   .rw[if_pos ho,if_pos hxt,if_neg (by omega),if_pos rfl];exact⟨3,rfl,by rw[if_pos ho]⟩
   .rw[if_neg ho,if_pos hxt,if_pos rfl];exact⟨0,rfl,by rw[if_neg ho]⟩
  obtain⟨c',hc⟩:∃c':C,c'={c with m:=(Fm.dD c.m (x:Int)).1,table:=c.table.set k (-1)}:=⟨_,rfl⟩;have nX:c'.m.length=c.m.length:=by rw[hc];show(Fm.dD c.m (x:Int)).1.length=_;rw[hu,bW]
  have mt:∀z,0<=z->(z∈c'.table↔z∈c.table/\z≠x):=λz hz=>by rw[hc];exact G4 g.tj hk (-1) hz (by omega) (by omega)
  have lY:∀z∈c'.table,0<=z->z∈c.table:=λz hz h0=>((mt z h0).1 hz).1;have TY:∀z:Int,0<=z->cC c' z=if z=x then u else cC c z:=by
   intro z hz;unfold cC;have e3:c'.parts=c.parts:=by rw[hc]
   have e4:c'.bQ=c.bQ:=by rw[hc]
   rw[e3,e4]
   by_cases e:z=x
   .rw[if_pos e];subst e;rw[if_neg hxp,hu2];have:(x:Int)∉c'.table:=λh=>((mt _ hz).1 h).2 rfl;simp only[this,if_false]
   .rw[if_neg e];have:(z∈c'.table)↔z∈c.table:=(mt z hz).trans ⟨λh=>h.1,λh=>⟨h,e⟩⟩;simp only[this]
  show Good {c with m:=(Fm.dD c.m (x:Int)).1,table:=c.table.set k (-1)} n/\_;refine⟨?_,?_,rfl,rfl,rfl,rfl⟩
  .rw[<-hc];refine⟨by rw[hc];exact g.up,by rw[hc];exact g.arm,by rw[hc];exact g.br,by rw[hc];exact g.ok,nX.trans g.ml,by rw[hc];exact g.ep,by rw[hc];exact g.sl,?_,by rw[nX,hc];exact g.oi,by rw[nX,hc];exact g.pi,by rw[hc];exact g.tj.bU k (-1) (.inl (by omega)),by rw[hc];exact g.oj,by rw[hc];exact g.pj,?_,by rw[hc];exact g.pl,?_,?_,?_,by rw[hc];exact g.ro⟩
   .intro z hz;rw[nX]
    by_cases h0:0<=z
    .exact g.ti z (lY z hz h0)
    .rw[hc]at hz
     rcases yn hz with hz|rfl
     .exact g.ti z hz
     .exact .inl rfl
   .intro z hz;have hz':z∈c.parts:=by rw[hc]at hz;exact hz
    exact⟨λh=>(g.dt z hz').1 (lY z h (g.pi z hz').1),by rw[hc];exact(g.dt z hz').2⟩
   .intro i z hi hz ho;rw[hc]at hi ho ⊢;have hi:(c.table.set k (-1))[i]?=some z:=hi;rw[iy]at hi
    split at hi
    .split at hi
     .injection hi with hi;omega
     .cases hi
    .exact g.sm i z hi hz ho
   .intro i hi;rw[nX]at hi;rw[TY i (by omega),<-g.md i hi];have:c'.m=c.m.set x u:=by rw[hc];exact hu
    rw[this,jJ _ _ _ _ hi]
    by_cases e:x=i
    .rw[if_pos e,if_pos (by omega)]
    .rw[if_neg e,if_neg (by omega)]
   .intro z hz h0;rw[hc];rw[hc]at hz;exact g.rt z (lY z (by rw[hc];exact hz) h0) h0
  .unfold C.bP;simp only[hu,bW,St.mk.injEq,true_and,and_true];rw[qL];rfl
 .have:((c.bP n).at l)=none:=by
   cases h:(c.bP n).at l with
   |none=>rfl
   |some v=>exact absurd (h1.2 (by rw[h];rfl)) hh
  rw[if_neg hh,if_pos (by simp),this,if_neg (by simp)];exact⟨g,rfl,rfl,rfl,rfl,rfl⟩
def sJ(t:List (Option (Bool×List UInt8))):Nat->List Int
 |0=>[]
 |k+1=>sJ t k++if((t[k]?).getD none).isSome then [(k:Int)]else []
theorem NV :∀k,k<=c.table.length->yi c.table k=sJ (c.bP n).now k
 |0,_=>rfl
 |k+1,h=>by
  unfold yi sJ;rw[NV k (by omega)]
  congr 1
  unfold C.bP;simp only[ic,aG (show k<c.table.length by omega),List.getD,k6,iM,C.cK]
  by_cases h0:c.table[k]<0
  .rw[if_pos h0,if_neg (by omega)];rfl
  .rw[if_neg h0,if_pos (by omega)];rfl
def St.jK(a:St):List Int:=sJ a.now a.now.length
theorem pS(t:List (Option (Bool×List UInt8))):∀k,k<=t.length->(sJ t k).length=(t.take k).countP Option.isSome
 |0,_=>rfl
 |k+1,h=>by
  unfold sJ;rw[aO,pS t k (by omega),gy (by omega),nY,aG (by omega)];simp only[iM]
  cases t[k]<;>simp
theorem slot_le(a:St):a.slot<=a.now.length:=n7
theorem Qe(a:St):a.at (a.slot:Nat)=none:=by
 unfold St.at;rw[if_pos (by omega),show(((a.slot:Nat):Int)).toNat=a.slot by omega]
 rcases dX a.slot a.now.length with h|h
 .have:=pG (p:=Option.isNone) (xs:=a.now) (w:=h);unfold St.slot at h ⊢;rw[aG h];simpa using this
 .rw[fG h];rfl
theorem Qf(d:D)(h:d.bn<=9223372036854775807):d.eh.1.calls<=d.calls+1/\d.eh.1.bn<=9223372036854775807:=by
 have:=vv d h;unfold D.eh
 split
 .exact⟨by show d.calls<=_;omega,h⟩
 .split
  .exact⟨by show d.cF.1.calls<=_;omega,this.2⟩
  .exact⟨by omega,this.2⟩
theorem La(n:Nat)(h1:1<=eY n)(hn:n<=4096)(fT:(eo (D.zero n) n).d.Ok n):Good (eo (D.zero n) n) n/\(eo (D.zero n) n).bP n={many:=eY n,now:=[],bQ:=[],ep:=1}/\(eo (D.zero n) n).d.calls<=10:=by
 have hk:2<=n:=by unfold eY ct at h1;omega
 have z:(D.zero n).down=false/\(D.zero n).bn=0/\(D.zero n).calls=0:=⟨rfl,rfl,rfl⟩;obtain⟨w1,w2,w3⟩:=iB (d:=D.zero n) (n:=n) (k:=0) z.1 z.2.1 (by omega) fD;obtain⟨v1,v2,v3⟩:=iB (d:=((D.zero n).aA n (0:Nat) fD).1) (n:=n) (k:=1) w2 w3 (by omega) [];obtain⟨s1,s2,s3,_⟩:=nE v2 v3;have c1:=iR (D.zero n) n 0 fD (by show(0:Int)<=_;omega);have c2:=iR ((D.zero n).aA n 0 fD).1 n 1 [] c1.2;have hc:(eo (D.zero n) n).d.calls<=10:=by
  show(((D.zero n).aA n 0 fD).1.aA n 1 []).1.eh.1.calls<=10;have c3:=(Qf ((((D.zero n).aA n 0 fD).1.aA n 1 []).1) c2.2).1;have:=c1.1;have:=c2.1;omega
 refine⟨⟨s2,s3,rfl,fT,by simp[eo],by simp[eo],.inl rfl,by simp[eo],by simp[eo],by simp[eo],by simp[eo,BJ],by simp[eo,BJ],by simp[eo,BJ],by simp[eo],by simp[eo,cB],by simp[eo],?_,by simp[eo],by simp[eo]⟩,?_,hc⟩
 .intro i hi;simp[eo]at hi;unfold cC eo;simp[List.getD,hi]
 .unfold C.bP eo;simp
def St.start(jK:Nat):St:={many:=jK,now:=[],bQ:=[],ep:=1}
end Sh
namespace Rt
open Go.RowKit Pk
attribute [local go_sem ↓] Go.wp_at_zero Go.wp_at_succ
def bS(b:List UInt8)(k:Nat):Nat:=(b.getD k 0).toNat*256+(b.getD (k+1) 0).toNat
end Rt
namespace Rt
open Go.RowKit Pk
theorem EU(N:Nat)(h:N<18446744073709551616):pA (vk N)=N:=by
 have e:vk N=[UInt8.ofNat (N / 72057594037927936),UInt8.ofNat (N / 281474976710656),UInt8.ofNat (N / 1099511627776),UInt8.ofNat (N / 4294967296),UInt8.ofNat (N / 16777216),UInt8.ofNat (N / 65536),UInt8.ofNat (N / 256),UInt8.ofNat (N / 1)]:=rfl;rw[e];simp only[pA,yV,JU,iN];omega
theorem jY(ep:Int):(fC ep).length=8:=by unfold fC vk;rw[oy]
theorem Lb(ep:Int)(h0:0<=ep)(h1:ep<=1099511627776):(pA (fC ep):Int)-9223372036854775808=ep:=by
 unfold fC;rw[EU _ (by omega)];omega
theorem Hb(l:List Nat):(l.flatMap eS).length=2*l.length:=by
 induction l with
 |nil=>rfl
 |cons a l ih=>rw[gJ,aO,ih];simp[eS];omega
theorem pT(lg:Nat)(l:List Nat)(h:l.length<=5):(ni lg l).length=44:=by
 unfold ni;simp only[aO,Hb,ev];simp[eS];omega
theorem xj(m:List UInt8):(jB.bH m).length=m.length+4:=by unfold jB.bH;simp[jB.iX]
theorem drop2(a:Nat)(r:List UInt8):(eS a++r).drop 2=r:=rfl
theorem drop4(a b:Nat)(r:List UInt8):(eS a++(eS b++r)).drop 4=r:=rfl
theorem vE(n:Nat)(h:n<65536)(r:List UInt8):bS (eS n++r) 0=n:=by
 unfold bS eS;simp only[m8,cI,List.getD_cons_zero,List.getD_cons_succ,iN];omega
theorem zE(b:List UInt8)(j k:Nat):bS b (j+k)=bS (b.drop j) k:=by
 unfold bS;simp only[ib,gK,Ex]
theorem Ua(l:List Nat)(r:List UInt8)(i:Nat)(h:i<l.length)(hs:∀x∈l,x<65536):bS (l.flatMap eS++r) (2*i)=l[i]:=by
 induction l generalizing i with
 |nil=>simp at h
 |cons a l ih=>
  cases i with
  |zero=>
   rw[gJ,cy,tP,vE a (hs a (by simp))];rfl
  |succ i=>
   rw[show 2*(i+1)=2+2*i by omega,zE];have hd:((a::l).flatMap eS++r).drop 2=l.flatMap eS++r:=by rw[gJ];rfl
   rw[hd,ih i (by simpa using h) (λx hx=>hs x (aw _ hx))];rfl
def pU(v:List UInt8):Int:=(pA (v.take 8):Int)-9223372036854775808
def Fk(v:List UInt8):List UInt8:=(v.drop 12).take 44
def decP(v:List UInt8):List Nat:=(List.range (bS (Fk v) 2)).map λi=>bS (Fk v) (4+2*i)
def goodR(v:List UInt8):Prop:=bS (Fk v) 2<=5/\iC (pU v) (bS (Fk v) 0:Nat) (dv (decP v))/\eV (pU v) (bS (Fk v) 0) (decP v)=v
theorem zF(ep:Int)(lg:Nat)(l:List Nat):(eV ep lg l).take 8=fC ep:=by
 unfold eV;rw[cy,kX (by rw[jY];exact Nat.le_refl _),cr (by rw[jY];exact Nat.le_refl _)]
theorem xm(ep:Int)(lg:Nat)(l:List Nat):(eV ep lg l).drop 8=jB.bH (ni lg l)++fC ep:=by
 unfold eV;rw[cy,sq (by rw[jY];exact Nat.le_refl _),Ee (by rw[jY];exact Nat.le_refl _),cI]
theorem Lc(ep:Int)(lg:Nat)(l:List Nat)(h:l.length<=5):(eV ep lg l).drop 56=fC ep:=by
 have h2:(jB.bH (ni lg l)).length=48:=by rw[xj,pT _ _ h]
 rw[show 56=8+48 by rfl,<-ix,xm,sq (by omega),Ee (by omega),cI]
theorem ud(ep:Int)(lg:Nat)(l:List Nat)(h:l.length<=5):(eV ep lg l).length=64:=by
 unfold eV;simp only[aO,jY,xj,pT _ _ h]
theorem vF(ep:Int)(lg:Nat)(l:List Nat)(h:l.length<=5):Fk (eV ep lg l)=ni lg l:=by
 unfold Fk;rw[show 12=8+4 by rfl,<-ix,xm];unfold jB.bH;have hm:=pT lg l h;have hf:∀n,(jB.iX n).length=4:=λn=>by simp[jB.iX]
 rw[cy,sq (by rw[hf];exact Nat.le_refl _),Ee (by rw[hf];exact Nat.le_refl _),cI,kX (by omega),cr (by omega)]
theorem Ub(ep:Int)(lg:Nat)(l:List Nat)(hr:iC ep lg (dv l)):pU (eV ep lg l)=ep/\bS (Fk (eV ep lg l)) 0=lg/\bS (Fk (eV ep lg l)) 2=l.length/\decP (eV ep lg l)=l:=by
 have h5:l.length<=5:=by have:=kF hr;simpa [dv]using this
 have Gn:=hr.1;have hlg:lg<=512:=by have:=hr.2.2.2.1;omega
 have hs:∀x∈l++List.replicate (5-l.length) 0,x<65536:=by
  intro x hx
  rcases aB.1 hx with hx|hx
  .obtain⟨i,hi,rfl⟩:=n8 hx;have h1:=hr.2.2.2.2.2 i ((l[i]:Nat):Int) (by simp[dv];exact⟨l[i],aG hi,rfl⟩);omega
  .have:=ng hx;omega
 have h2:bS (ni lg l) 2=l.length:=by
  unfold ni;rw[show(2:Nat)=2+0 by rfl,zE,cy,cy,drop2];exact vE _ (by omega) _
 have h4:∀i,i<l.length->bS (ni lg l) (4+2*i)=l.getD i 0:=by
  intro i hi;unfold ni;rw[zE,cy,cy,drop4,Ua _ _ i (by rw[aO];omega) hs,List.getElem_append_left hi,ib,aG hi];rfl
 refine⟨?_,?_,?_,?_⟩
 .unfold pU;rw[zF];exact Lb ep (by omega) hr.2.1
 .rw[vF _ _ _ h5];unfold ni;rw[cy,cy];exact vE lg (by omega) _
 .rw[vF _ _ _ h5,h2]
 .unfold decP;rw[vF _ _ _ h5,h2];apply uY (by simp);intro i h1 h3;simp only[eM,En]at h1;rw[JV,yX,h4 i h1,ib,aG h1];rfl
attribute [local go_sem ↓] Go.wp_at_zero Go.wp_at_succ
variable{w:World}
def Hc(x:Int):Nat:=(max x (-1)+1).toNat
def jb(l:List Int):List UInt8:=(l.map Hc).flatMap eS
def ie(l:List Int)(p:Nat):List Int:=(l.drop (116*p)).take 116
theorem xq(l:List Int)(p:Nat):(ie l p).length=min 116 (l.length-116*p):=by simp[ie]
theorem Uc(l:List Int)(p i:Nat)(h:i<116):(ie l p)[i]?=l[116*p+i]?:=by
 unfold ie;rw[sy,if_pos h,gK]
theorem Qg{ad:Addr}{n m p i:Nat}{l:List Int}(h:ji w (some ad) n l)(hm1:m<=116)(NK:116*p+m<=n)(hi:i<m):
  ∃x,w.cell? ((ad.add (p*116)).add i)=some (.int .i64 x)/\(ie l p).take (i+1)=(ie l p).take i++[x]/\jb ((ie l p).take (i+1))=jb ((ie l p).take i)++eS (Hc x)/\x∈ie l p:=by
 obtain⟨ad',x,e,hx,ck⟩:=h.at (116*p+i) (by omega)
 cases e
 have hl:=h.1;have hg:(ie l p)[i]?=some x:=by rw[Uc _ _ _ (by omega)];exact hx
 obtain⟨dP,JB⟩:=aM.1 hg;have ht:(ie l p).take (i+1)=(ie l p).take i++[x]:=by rw[gy dP,JB]
 refine⟨x,?_,ht,?_,ay hg⟩
 .rw[JY,show p*116+i=116*p+i by omega];exact ck
 .rw[ht];unfold jb;rw[ez,su];simp
theorem Hd(A:Option Addr)(n c:Nat)(l:List Int)(h:ji w A n l)(hn:n<=1000000)(J1:n<=c)(p:Nat)(hp:116*p<n):
  Calls prog 198 #[.slice A n c,.int .i64 (p:Nat)] w λe w'=>(((∃x∈ie l p,1023<x)/\e=.returned (.tuple #[.string ⟨#[]⟩,.int .i64 2]))\/((∀x∈ie l p,x<=1023)/\e=.returned (.tuple #[.string ⟨(jb (ie l p)).toArray⟩,.int .i64 0])))/\Below w.heap.size w w':=by
 have hneed:(p:Int)<mV n:=by unfold mV;omega
 have h1:¬(p:Int)<0:=by omega
 have h2:¬(p:Int)≥mV n:=by omega
 have h2b:¬mV n<=(p:Int):=by omega
 have KN:=xh (zu (n:Int) (by omega) w);have HL:=xh h.1;have HI:=xh h;obtain⟨ad,x0,rfl,_,_⟩:=h.at 0 (by omega);obtain⟨m,hm⟩:∃m,m=min 116 (n-116*p):=⟨_,rfl⟩;have HM:=xh hm;have hm1:m<=116:=by omega
 have NK:116*p+m<=n:=by omega
 clear h hm;generalize mV n=nd at *;have e1:IntKind.i64.wrap ((p:Int)*116)=(p:Int)*116:=IntWalk.i64_in _ (by omega);have e2:IntKind.i64.wrap ((p:Int)+1)=(p:Int)+1:=IntWalk.i64_in _ (by omega);have e3:IntKind.i64.wrap (((p:Int)+1)*116)=((p:Int)+1)*116:=IntWalk.i64_in _ (by omega);go_enter func198,ntmps198;go_wp2_with fail;refine KN.o.mono ?_;rintro e w1 ⟨rfl,bg⟩;have O1:=xh bg;clear bg KN;go_wp2_with fail;rw[show n-p*116=m from by have:=HM.o;omega];rotate_left
 rw[show((((p:Int)+1)*116).toNat-p*116)=m from by have:=HM.o;omega]
 all_goals
  go_loopw [6,29] (λbv iv wr=> ∃i:Nat,i<=m/\iv=.int .i64 i/\aS wr 5 1 bv (2*i) (dN (jb ((ie l p).take i)))/\Hid (∀x∈(ie l p).take i,x<=1023)/\Below w.heap.size w wr/\Hid (∀g∈ah bv,w.heap.size<=g)) (λ_ iv _=>m-(intOf iv).toNat)
  case atStart=>exact⟨0,bf _,rfl,aS.nil _ _ _,xh (by simp),O1.o,xh (by simp[ah])⟩
  case round=>
   obtain⟨i,hi,rfl,S,GD,O,F⟩:=hrel
   by_cases h':i<m
   .obtain⟨x,ck,ht,hp2,hmem⟩:=Qg (HI.o.below O) hm1 NK h';have OO:=xh O;have HT:=xh ht;have HP:=xh hp2;have HX:=xh hmem;clear O ht hp2 hmem;have hiI:(i:Int)<(m:Int):=by omega
    by_cases hx:1023<x
    .go_wp2_with fail;go_ret2;exact⟨.inl ⟨⟨x,HX.o,hx⟩,rfl⟩,OO.o⟩
    .obtain⟨BA,bc,rfl⟩:=ax S;have KT:=xh (fe _ (2*i) _ S (Hc x) (by unfold Hc;omega) (by omega));have G2:=xh (show ∀y∈(ie l p).take (i+1),y<=1023 from by
      rw[HT.o];intro y hy
      rcases aB.1 hy with hy|hy
      .exact GD.o y hy
      .simp at hy;omega)
     clear S
     by_cases zG:x< -1
     rw[show((Hc x:Nat):Int)=0 from by unfold Hc;omega]at KT;rotate_left;rw[show((Hc x:Nat):Int)=x+1 from by unfold Hc;omega]at KT
     all_goals
      go_wp2_with fail;refine KT.o.mono ?_;rintro e w2 ⟨⟨v2,rfl,S2,fr⟩,ow⟩;rw[<-HP.o]at S2;have S2:=xh S2;have O2:=xh (OO.o.trans (ow.aJ OO.o.size F.o));have F2:=xh (show ∀g∈ah v2,w.heap.size<=g from λg hg=>(fr g hg).elim (F.o g) (λh=>aq OO.o.size h));clear fr ow;go_wp2_with fail;go_roundw
      case rel=>exact⟨i+1,by omega,by go_num,S2.o,G2,O2.o,F2⟩
      case measure=>simp[intOf];omega
   .obtain rfl:i=m:=by omega
    have Ud:(ie l p).take i=ie l p:=cr (by rw[xq,HL.o];have:=HM.o;omega);rw[Ud]at S;have G2:=xh (show ∀y∈ie l p,y<=1023 from by have:=GD.o;rwa [Ud]at this);obtain⟨g,cap,rest,rfl,B,hc,_⟩:=S.form (by have:=HM.o;omega) (by omega)
    have ST:=xh (cm (P:=prog) wr 150 9 5 underlying150 underlying5 underlying9 ⟨g,0,none⟩ (2*i) cap (jb (ie l p)) (by have:=S.1;simpa using this) (bq B 0 _ (by intro j u hu;rw[bl];exact bE (aM.1 hu).1▸hu)));have OO:=xh O;clear O S B Ud;go_wp2_with fail;rw[ST.o];go_wp2_with fail;go_ret2;exact⟨.inr ⟨G2.o,rfl⟩,OO.o⟩
attribute [local go_sem ↓] bw
def nvs(l:List Int):List Value:=l.map (Value.int .i64)
@[simp] theorem nvs_length(l:List Int):(nvs l).length=l.length:=by simp[nvs]
def cU(T:List UInt8)(m:Nat):List Int:=(List.range m).map λj=>(bS T (2*j):Int)-1
@[simp] theorem getF_length(T:List UInt8)(m:Nat):(cU T m).length=m:=by simp[cU]
end Rt
namespace Sh
open Go.RowKit Pk Dk Pg
attribute [local go_sem ↓] Go.wp_at_zero Go.wp_at_succ bw
variable{w:World}
theorem He{v:Value}{l:List Int}(S:Sl w 3 v l.length (cZ l))(hl:l.length<=100000):
  Calls prog 85 #[v] w λe w'=> ∃v',e=.returned v'/\Sl w' 3 v' l.length (cZ l)/\Below w.heap.size w w'/\∀g∈cf v',w.heap.size<=g:=by
 obtain⟨A,c,rfl,hc⟩:=S.val;have O0:=ae (Below.refl w.heap.size w) (.cells #[] 3);have E0:Sl (w.alloc (.cells #[] 3)) 3 (.slice (some ⟨w.heap.size,0,none⟩) 0 0) 0 (cZ []):=⟨rfl,.inl ⟨_,rfl,rfl⟩⟩;have HN:∀j u,(cZ l)[j]?=some u->∃a,A=some a/\(w.alloc (.cells #[] 3)).cell? (a.add j)=some u:=by
  intro j u hu;have hj:j<l.length:=by have:=(aM.1 hu).1;simpa using this
  obtain⟨g,cap,rest,hv,B,_,_⟩:=(S.alloc (.cells #[] 3)).form (by omega);injection hv with e1 e2 e3
  subst e1;exact⟨_,rfl,bq B 0 _ (by intro i v hi;rw[bl];exact bE (aM.1 hi).1▸hi) j u hu⟩
 obtain⟨v1,w1,ea,S1,o1,f1⟩:=Cv (P:=prog) E0 60 60 (.int .i64 0) 8 underlying60 kG rfl A l.length c (cZ l) (by simp) HN (TB l) (by unfold maxLen;omega) (by omega);rw[bl,<-fW,cI]at S1
 have H1:=xh (show Sl w1 3 v1 l.length (cZ l)/\Below w.heap.size w w1/\∀g∈cf v1,w.heap.size<=g from⟨S1,O0.trans (o1.aJ (by simp) (λx hx=>by simp[cf]at hx)),λg hg=>(f1 g hg).elim (λh=>by simp[cf]at h) (λh=>by simp at h;omega)⟩);have EA:=xh ea;have HS:=xh S;clear ea S1 o1 f1 HN E0 O0
 cases A with
 |none=>
  have HE:=Lib.run_eql_slice_nil (P:=prog) w 60 3 none 0 0 0 0 underlying60;have h0:l.length=0:=by
   rcases S.2 with⟨A',e,h0⟩|⟨g,cap,rest,e,_⟩
   .exact h0
   .cases e
  have NN:c=0:=by
   rcases S.2 with⟨A',e,_⟩|⟨g,cap,rest,e,_⟩
   .injection e
   .cases e
  subst NN;have GQ:l=[]:=nc h0;subst GQ;clear S;go_enter func85,ntmps85;go_wp2_with fail;go_ret;exact⟨.slice none 0 0,by first|rfl|simp,Sl.nil _ _,Below.refl _ _,by simp[cf]⟩
 |some a=>
  have HE:=Lib.run_eql_slice_nil (P:=prog) w 60 3 (some a) l.length c 0 0 underlying60;clear S;go_enter func85,ntmps85;go_wp2_with fail;rw[EA.o];go_wp2_with fail;go_ret;exact⟨v1,by first|rfl|simp,H1.o⟩
def C.aA(c:C)(n:Nat)(l:Int)(p:List UInt8):C×Int:=
 if c.broken=true then(c,13)
 else if 232<p.length then(c,4)
 else if c.jD l≠0 then(c,c.jD l)
 else if Fm.bZ c.m (c.table.getD l.toNat 0)=true then({c with d:=(bm c.d n (c.table.getD l.toNat 0) (c.ep+1) 2 p).1},(bm c.d n (c.table.getD l.toNat 0) (c.ep+1) 2 p).2)
 else if(c.bZ n p).2.2≠0 then((c.bZ n p).1,(c.bZ n p).2.2)
 else({(c.bZ n p).1 with m:=(Fm.dD (c.bZ n p).1.m (c.table.getD l.toNat 0)).1,table:=c.table.set l.toNat (c.bZ n p).2.1},0)
theorem Ld{x:X}{n:Nat}{c:C}(h:At w x n c)(l:Int)(s:ByteArray)(hs:s.size<=9223372036854775807)(Gn:0<=c.ep/\c.ep<=1099511627776)(hc:c.d.calls<=3999999999999999990)(hr:c.d.bn<=9223372036854775807)(ht:∀k,c.table.getD k 0<=1024):
  Calls prog 147 #[sp x.b,.int .i64 l,.string s] w λe w'=>e=.returned (.int .i64 (c.aA n l s.data.toList).2)/\At w' x n (c.aA n l s.data.toList).1/\ag x.fp w w':=by
 have KW:=iQ h;have hl:s.data.toList.length=s.size:=by simp
 obtain⟨R,hR⟩:∃R,c.aA n l s.data.toList=R:=⟨_,rfl⟩;rw[hR];unfold C.aA at hR;rw[hl]at hR;have HH:=xh h
 by_cases h1:c.broken=true
 .rw[if_pos h1]at hR;subst hR;rw[show c.fH=13 from by unfold C.fH;rw[if_pos h1]]at KW;have KW:=xh KW;clear h h1;unfold sp at *;go_enter func147,ntmps147;go_wp2_with fail;refine KW.o.mono ?_;rintro e w1 ⟨rfl,rfl⟩;go_wp2_with fail;go_ret;exact aP ⟨HH.o,ag.refl _ _⟩
 rw[if_neg h1]at hR;rw[show c.fH=0 from by unfold C.fH;rw[if_neg h1]]at KW;have KW:=xh KW
 by_cases h2:232<s.size
 .rw[if_pos h2]at hR;subst hR;have h2I:(232:Int)<(s.size:Int):=by omega
  clear h h1 h2;unfold sp at *;go_enter func147,ntmps147;go_wp2_with fail;refine KW.o.mono ?_;rintro e w1 ⟨rfl,rfl⟩;go_wp2_with fail;go_ret;exact aP ⟨HH.o,ag.refl _ _⟩
 rw[if_neg h2]at hR;have h2I:¬(232:Int)<(s.size:Int):=by omega
 have KA:=pM h l
 by_cases h3:c.jD l=0
 .rw[if_neg (by simpa using h3)]at hR;obtain⟨_,h5,h6,h7⟩:=Ko h3;rw[h3]at KA;have KA:=xh KA;obtain⟨k,rfl⟩:=eT h5;have hk:k<c.table.length:=by omega
  rw[show((k:Nat):Int).toNat=k from by omega]at hR h7;obtain⟨g,cp,hv,ck⟩:=h.tk k hk;have f1:=h.f1;have f2:=h.f2;rw[hv]at f2;have Kp:(k:Int)<(c.table.length:Int):=by omega
  have HR:=xh hR;have hid:c.table.getD k 0<=9223372036854775807:=by have:=ht k;omega
  have KF:=xh (λ(m:Nat)=>Fm.qW (h.drewN m).hm (c.table.getD k 0));have KP:=xh (λ(m:Nat)=>iO (h.drewN m) (c.table.getD k 0) 2 s hid Gn hc hr);have KN:=xh (λ(m:Nat)=>qW (h.drewN m) s Gn hc hr);have HD:=xh (λ(m:Nat)=>h.drewN m);obtain⟨pid,Ue⟩:∃pid,c.table.getD k 0=pid:=⟨_,rfl⟩;rw[Ue]at ck KF KP hR HR;have g1:=h.f1
  by_cases hf:Fm.bZ c.m pid=true
  .rw[if_pos hf]at hR;subst hR;rw[hf]at KF;clear h h1 h2 h3 hv hf HR Ue hid;generalize c.table.length=tn at *;unfold Fm.mp at *;unfold sp at *;go_enter func147,ntmps147;go_wp2_with fail;refine KW.o.mono ?_;rintro e w1 ⟨rfl,rfl⟩;go_wp2_with fail;refine KA.o.mono ?_;rintro e w1 ⟨rfl,rfl⟩;go_wp2_with fail;go_quiet ((go_at_call 192;exact y9 (KF.o _)));go_wp2_with fail;refine(KP.o nq).mono ?_;rintro e w2 ⟨rfl,A2,o2⟩;have A2:=xh A2
   have o2:=xh (((ag.refl x.fp w).drewN nq).trans (o2.mono (λg hg _=>GU x g hg)));go_wp2_with fail;go_ret;exact aP ⟨A2.o,o2.o⟩
  .have Ch:Fm.bZ c.m pid=false:=by cases hb:Fm.bZ c.m pid with|true=>exact absurd hb hf|false=>rfl
   rw[if_neg hf]at hR;rw[Ch]at KF;have FT:=lX c n s.data.toList;obtain⟨c1,Fl⟩:∃c1,c.bZ n s.data.toList=c1:=⟨_,rfl⟩;rw[Fl]at KN hR FT;obtain⟨C1,id1,e1⟩:=c1;dsimp only at KN hR FT
   by_cases he:e1=0
   .subst he;rw[if_neg (by simp)]at hR;subst hR;have HT:=xh FT.1;have hpid2:=xh (show C1.table.getD k 0=pid by rw[HT.o];exact Ue);have hk2:=xh (show k<C1.table.length by rw[HT.o];exact hk);have HX:=xh (show ∀w1,At w1 x n C1->∀cp',x.tv=.slice (some ⟨g,0,none⟩) c.table.length cp'->(w1.cell? ⟨x.b,1,none⟩=some (Fm.mp x.mb)/\w1.cell? ⟨x.b,2,none⟩=some (.slice (some ⟨g,0,none⟩) c.table.length cp')/\w1.cell? ⟨g,k,none⟩=some (.int .i64 pid))from λw1 A1 cp' e=>by
     obtain⟨g2,cp2,e2,ck2⟩:=A1.tk k hk2.o;rw[e]at e2;injection e2 with e3 e4 e5
     injection e3 with e3
     injection e3 with e3
     subst e3;rw[hpid2.o]at ck2;exact⟨A1.f1,by rw[<-e];exact A1.f2,ck2⟩)
    have HS:=xh (show ∀w2,At w2 x n {C1 with m:=(Fm.dD C1.m pid).1}->∀cp',x.tv=.slice (some ⟨g,0,none⟩) c.table.length cp'->(w2.cell? ⟨g,k,none⟩=some (.int .i64 pid)/\w2.frozen? ⟨g,k,none⟩=false/\At (w2.setCell ⟨g,k,none⟩ (.int .i64 id1)) x n {C1 with m:=(Fm.dD C1.m pid).1,table:=c.table.set k id1}/\ag x.fp w2 (w2.setCell ⟨g,k,none⟩ (.int .i64 id1)))from λw2 A2 cp' e=>by
     obtain⟨g2,cp2,e2,ck2,z2,A3,o3⟩:=A2.iD k hk2.o id1;rw[e]at e2;injection e2 with e3 e4 e5
     injection e3 with e3
     injection e3 with e3
     subst e3;rw[show({C1 with m:=(Fm.dD C1.m pid).1}:C).table.getD k 0=pid from hpid2.o]at ck2;rw[show({C1 with m:=(Fm.dD C1.m pid).1}:C).table=c.table from HT.o]at A3;exact⟨ck2,z2,A3,o3⟩)
    have HV:=xh hv;have KL:=xh (λ(W:World) (hW:At W x n C1)=>Fm.qU hW.hm pid);have HM:=xh (λ(W W':World) (hW:At W x n C1) (mm:Fm.dE W' x.mb x.mg (Fm.dD C1.m pid).1) (ow:ag [x.mg] W W')=>hW.map mm ow);clear h h1 h2 h3 hv hf Ch HR Ue hid FT Fl;generalize c.table.length=tn at *;generalize (Fm.dD C1.m pid).2=le at *;unfold Fm.mp at *;unfold sp at *;go_enter func147,ntmps147;go_wp2_with fail;refine KW.o.mono ?_;rintro e w1 ⟨rfl,rfl⟩
    go_wp2_with fail;refine KA.o.mono ?_;rintro e w1 ⟨rfl,rfl⟩;go_wp2_with fail;go_quiet ((go_at_call 192;exact y9 (KF.o _)));go_wp2_with fail;refine(KN.o nq).mono ?_;rintro e w1 ⟨rfl,A1,o1⟩;have A1:=xh A1;have o1:=xh (((ag.refl x.fp w).drewN nq).trans o1);clear f1 f2 ck;have A1d:=xh A1.o.drew;have HK:=xh (HX.o _ A1d.o cp HV.o);go_wp2_with fail
    refine wp_region_held_drew (S:=λW'=>W'.cell? ⟨x.b,1,none⟩=some (.pointer (some ⟨x.mb,0,none⟩))/\W'.cell? ⟨x.b,2,none⟩=some (.slice (some ⟨g,0,none⟩) tn cp)/\W'.cell? ⟨g,k,none⟩=some (.int .i64 pid)) (by kernel_rfl) (HK.o) (λau=>?_);refine cP [(0,56),(1,57),(2,58),(3,59),(4,60),(5,61),(6,62),(7,63),(8,64),(9,65),(10,66)] ?_
    iterate 11 refine bj ?_
    refine cQ 11 67 λK hK=>?_;go_simp
    go_at_call 153
    refine(KL.o _ A1d.o).mono ?_;rintro e w2 ⟨rfl,mm,ow⟩;have A2:=xh (HM.o _ _ A1d.o mm ow);have Kx:=xh (HS.o w2 A2.o cp HV.o);have q1:=A2.o.f1;have q2:=A2.o.f2;rw[HV.o]at q2;unfold Fm.mp at q1;have OX:=xh (((o1.o.drew).trans (ow.mono (λg hg _=>rW x g hg))).trans Kx.o.2.2.2);have z2:=Kx.o.2.1;have ck2:=Kx.o.1;clear mm ow;go_simp;refine bz hK (⟨q1,q2,ck2⟩) (λau=>?_);refine wpAnyH_done (by kernel_rfl) ?_ _;go_wp2_with fail;go_ret
    exact aP ⟨Kx.o.2.2.1,OX.o⟩
   .rw[if_pos he]at hR;subst hR;have hq:(e1 != 0)=true:=by rw[bne_iff_ne];exact he
    have kh:(e1==0)=false:=by rw[beq_eq_false_iff_ne];exact he
    clear h h1 h2 h3 hv hf Ch HR Ue hid FT Fl;generalize c.table.length=tn at *;unfold Fm.mp at *;unfold sp at *;go_enter func147,ntmps147;go_wp2_with fail;refine KW.o.mono ?_;rintro e w1 ⟨rfl,rfl⟩;go_wp2_with fail;refine KA.o.mono ?_;rintro e w1 ⟨rfl,rfl⟩;go_wp2_with fail;go_quiet ((go_at_call 192;exact y9 (KF.o _)));go_wp2_with fail;refine(KN.o nq).mono ?_;rintro e w1 ⟨rfl,A1,o1⟩;have A1:=xh A1;have o1:=xh (((ag.refl x.fp w).drewN nq).trans o1)
    go_wp2_with fail;go_ret;exact aP ⟨A1.o,o1.o⟩
 .rw[if_pos h3]at hR;subst hR;have KA:=xh KA;have hq:(c.jD l != 0)=true:=by rw[bne_iff_ne];exact h3
  have kh:(c.jD l==0)=false:=by rw[beq_eq_false_iff_ne];exact h3
  generalize c.jD l=ea at *;clear h h1 h2 h3;unfold sp at *;go_enter func147,ntmps147;go_wp2_with fail;refine KW.o.mono ?_;rintro e w1 ⟨rfl,rfl⟩;go_wp2_with fail;refine KA.o.mono ?_;rintro e w1 ⟨rfl,rfl⟩;go_wp2_with fail;go_ret;exact aP ⟨HH.o,ag.refl _ _⟩
end Sh
namespace Sh
open Go.RowKit Pk Dk Pg
attribute [local go_sem ↓] Go.wp_at_zero Go.wp_at_succ
def Uf(e:Int):List PanicEntry:=[{v:= .iface 31 (.int .i64 e),recovered:=false}]
theorem yG(w:World):Calls prog 199 #[.int .i64 0] w λe w'=>e=.returned (.tuple #[])/\w=w':=by
 go_enter func199,ntmps199;go_wp2_with fail
 go_end0
 exact⟨rfl,rfl⟩
theorem ue(e0:Int)(he:e0≠0)(w:World):Calls prog 199 #[.int .i64 e0] w λe w'=>e= .panicked (Uf e0)/\w=w':=by
 have hq:(e0 != 0)=true:=by rw[bne_iff_ne];exact he
 have kh:(e0==0)=false:=by rw[beq_eq_false_iff_ne];exact he
 unfold Uf;go_enter func199,ntmps199;go_wp2_with fail;exact⟨rfl,rfl,rfl⟩
theorem Hf(w:World):(Instr.typeAssert .nilIface 20 31 true).run prog w=.ok (.tuple #[.int .i64 0,.bool false]) w:=by kernel_rfl
theorem Hg(w:World)(e:Int):(Instr.typeAssert (.iface 31 (.int .i64 e)) 20 31 true).run prog w=.ok (.tuple #[.int .i64 e,.bool true]) w:=by kernel_rfl
theorem Le(p:Addr)(w:World):
  CallsD prog 196 #[.pointer (some p)] .returning w λe u' w'=>e=.returned (.tuple #[])/\u'= .returning/\w'=w:=by
 have ha:=Hf w;refine callsD_of_wpS func196 rfl λc₀ cs hu=>?_;apply wpS_seq;apply wpS_region;simp[wpOpsS,go_sem,recoverD,hu,ntmps196,Exit.thenS,ha];apply wpS_seq;apply wpS_region;simp[wpOpsS,go_sem,Exit.thenS];refine wpS_cond (t:=false) (by simp[Act.eval,Array.replicate]) ?_;simp only[oW,if_false];refine wpS_of_wp (wp_skip ?_)
 cases c₀
 simp_all[bodyPostS,results,Tryz.results196]
theorem ju(p:Addr)(x e0:Int)(older:List PanicEntry)(w:World)(hc:w.cell? p=some (.int .i64 x))(hz:w.frozen? p=false):
  CallsD prog 196 #[.pointer (some p)] (.panicking ({v:= .iface 31 (.int .i64 e0),recovered:=false}::older)) w λe u' w'=>
   e=.returned (.tuple #[])/\u'= .panicking ({v:= .iface 31 (.int .i64 e0),recovered:=true}::older)/\w'=w.setCell p (.int .i64 e0):=by
 have ha:=Hg w e0;refine callsD_of_wpS func196 rfl λc₀ cs hu=>?_;apply wpS_seq;apply wpS_region;simp[wpOpsS,go_sem,recoverD,hu,ntmps196,Exit.thenS,ha];apply wpS_seq;apply wpS_region;simp[wpOpsS,go_sem,Exit.thenS];refine wpS_cond (t:=true) (by simp[Act.eval,Array.replicate]) ?_;simp only[if_true];apply wpS_region;simp[wpOpsS,go_sem,hc,hz,bodyPostS,results,Tryz.results196]
theorem Ug{w:World}{x:X}{n:Nat}{c:C}(h:At w x n c){q:Nat}(hq:w.cell? ⟨q,0,none⟩=some (sp x.b))(i:Nat)(hi:116*i<c.table.length)(hb:∀y∈c.table,y<=1023):
  Calls prog 197 #[.int .i64 (i:Nat),.pointer (some ⟨q,0,none⟩)] w λe w'=>e=.returned (.string ⟨(Rt.jb (Rt.ie c.table i)).toArray⟩)/\Below w.heap.size w w':=by
 have f2:=h.f2;obtain⟨A,cc,hv,hcc⟩:=h.ht.val;have tl:=h.tl;have KP:=Rt.Hd (w:=w) A c.table.length cc c.table ⟨rfl,λk y hy=>by
  have hk:k<c.table.length:=(aM.1 hy).1;obtain⟨g,cp,pB,ck⟩:=h.tk k hk;rw[hv]at pB;injection pB with e1 e2 e3
  refine⟨_,e1,?_⟩;rw[show(⟨g,0,none⟩:Addr).add k=⟨g,k,none⟩from by unfold Addr.add;split<;>simp_all,ck]
  congr 2
  simp[List.getD,hy]⟩ (by omega) hcc i hi
 have KP:=xh (KP.mono λe w' hh=>(show e=.returned (.tuple #[.string ⟨(Rt.jb (Rt.ie c.table i)).toArray⟩,.int .i64 0])/\Below w.heap.size w w' from by
  obtain⟨h1|h1,h2⟩:=hh
  .obtain⟨⟨y,hy,dP⟩,_⟩:=h1;have:=hb y (tI (gM hy));omega
  .exact⟨h1.2,h2⟩))
 rw[hv]at f2;clear h hv;unfold sp at *;go_enter func197,ntmps197;go_wp2_with fail;refine KP.o.mono ?_;rintro e w1 ⟨rfl,bg⟩;have H1:=xh bg;clear bg;go_wp2_with fail;go_ret;exact aP H1.o
end Sh
end Go.Proofs.YtmonobkginiajaaGreat
