/- packed. -/
import Derived.Test.YtmonobkginiajaaGreatC7
import Derived.WalkMore
set_option linter.all false
set_option maxRecDepth 100000
set_option maxHeartbeats 8000000
namespace Go.Proofs.YtmonobkginiajaaGreat.Sh
open Go.RowKit Pk Dk Pg
attribute [local go_sem ↓] Go.wp_at_zero Go.wp_at_succ
variable{w:World}{g:Nat}
structure Fr where
 an:Int
 eC:ByteArray
 held:Int
 bT:Bool
 used:Bool
def Fr.cs(f:Fr):List Value:=[.int .i64 f.an,.string f.eC,.int .i64 f.held,.bool f.bT,.bool f.used]
def Fr.agg(f:Fr):Value:= .agg #[.int .i64 f.an,.string f.eC,.int .i64 f.held,.bool f.bT,.bool f.used]
def Fr.nil:Fr:=⟨-1,⟨#[]⟩,0,false,false⟩
def wD(l:List Fr):List Value:=l.flatMap Fr.cs
theorem jB(l:List Fr):(wD l).length=l.length*5:=by
 induction l with
 |nil=>rfl
 |cons f l ih=>simp only[wD,ie,aU]at ih ⊢;rw[ih];simp[Fr.cs];omega
theorem frc_get(l:List Fr)(k i:Nat)(hi:i<5)(f:Fr)(hf:l[k]?=some f):(wD l)[k*5+i]?=f.cs[i]?:=by
 induction l generalizing k with
 |nil=>simp at hf
 |cons a l ih=>
  have e5:a.cs.length=5:=rfl;simp only[wD,ie]at ih ⊢
  cases k with
  |zero=>
   simp at hf;subst hf;rw[q5,bt,bx (by omega)]
  |succ k=>
   simp at hf;rw[dF (by omega),e5,show(k+1)*5+i-5=k*5+i from by omega];exact ih k hf
def qf(w:World)(g:Nat)(l:List Fr):Prop:= ∀k f,l[k]?=some f->w.cell? ⟨g,k*5,none⟩=some (.int .i64 f.an)/\w.cell? ⟨g,k*5+1,none⟩=some (.string f.eC)/\w.cell? ⟨g,k*5+2,none⟩=some (.int .i64 f.held)/\w.cell? ⟨g,k*5+3,none⟩=some (.bool f.bT)/\w.cell? ⟨g,k*5+4,none⟩=some (.bool f.used)
theorem qf.of{l:List Fr}{rest:List Value}{t:TypeId}(B:aD w g t (wD l++rest).toArray):qf w g l:=by
 intro k f hf;have hk:k<l.length:=(aR.1 hf).1;have hl:=jB l;have c:∀i v,i<5->f.cs[i]?=some v->w.cell? ⟨g,k*5+i,none⟩=some v:=λi v hi hv=>
  B.ab (by rw[cW,bx (by omega),frc_get l k i hi f hf,hv])
 exact⟨c 0 _ (by omega) rfl,c 1 _ (by omega) rfl,c 2 _ (by omega) rfl,c 3 _ (by omega) rfl,c 4 _ (by omega) rfl⟩
theorem qf.below{w':World}{l:List Fr}(h:qf w g l)(hb:Below w.heap.size w w'):qf w' g l:=by
 intro k f hf;obtain⟨c0,c1,c2,c3,c4⟩:=h k f hf;exact⟨(hb.cell (db c0)).trans c0,(hb.cell (db c1)).trans c1,(hb.cell (db c2)).trans c2,(hb.cell (db c3)).trans c3,(hb.cell (db c4)).trans c4⟩
def xW(b:Fr->Bool)(l:List Fr):Int:=if l.findIdx b<l.length then(l.findIdx b:Int)else -1
def findF(l:List Fr)(p:Int):Int:=if p<0 then -1 else xW (λf=>decide (f.an=p)) l
theorem rh{b:Fr->Bool}{l:List Fr}{k:Nat}{f:Fr}(hf:l[k]?=some f)(hb:b f=true)(ha:∀(j:Nat) (a:Fr),j<k->l[j]?=some a->b a=false):xW b l=k:=by
 have hk:k<l.length:=(aR.1 hf).1;have hg:l[k]=f:=(aR.1 hf).2;have e:l.findIdx b=k:=by
  rw[List.findIdx_eq hk];exact⟨by rw[hg];exact hb,λj hj=>by have:=ha j l[j] hj (aN (by omega));simp[this]⟩
 unfold xW;rw[e,if_pos hk]
theorem rZ{b:Fr->Bool}{l:List Fr}(ha:∀(j:Nat) (a:Fr),l[j]?=some a->b a=false):xW b l= -1:=by
 have e:l.findIdx b=l.length:=by
  rw[List.findIdx_eq_length];intro x hx;obtain⟨i,hi,rfl⟩:=List.mem_iff_getElem.1 hx;exact ha i _ (aN hi)
 unfold xW;rw[e,if_neg (qU _)]
theorem DR{fn:Func}{p:Tmp}{f:Fr}{tmps:Array Value}(h:fn.results= #[.cell p 167])(hp:tmps.getD p undef=.pointer (some ⟨g,0,none⟩))(B:aD w g 167 f.cs.toArray):
  (results fn tmps).run Tryz.prog w=.ok f.agg w:=by
 have c0:=B.ab (i:=0) rfl;have c1:=B.ab (i:=1) rfl;have c2:=B.ab (i:=2) rfl;have c3:=B.ab (i:=3) rfl;have c4:=B.ab (i:=4) rfl;rw[kk h,hp];clear h hp B;unfold Fr.agg;go_simp;exact⟨rfl,rfl,rfl,rfl,rfl⟩
theorem l8(w:World):Calls Tryz.prog 86 #[] w λe w'=>e=.returned Fr.nil.agg/\Below w.heap.size w w':=by
 unfold Fr.nil Fr.agg;go_enter Tryz.func86,Tryz.ntmps86;go_wp2_with fail;exact bodyPost_ret (DR (f:=Fr.nil) rfl rfl (aD.new w 167 Fr.nil.cs.toArray)) rfl ⟨rfl,ae (Below.refl w.heap.size w) _⟩
theorem l9(f:Fr)(q:Nat)(p:Int)(w:World)(hq:w.cell? ⟨q,0,none⟩=some (.int .i64 p))(b:Bool)(hb:b=decide (f.an=p)):
  Calls Tryz.prog 221 #[f.agg,.pointer (some ⟨q,0,none⟩)] w λe w'=>e=.returned (.bool b)/\Below w.heap.size w w':=by
 have O0:=xh ((Below.refl w.heap.size w).alloc (ak _) (.cells #[.int .i64 f.an,.string f.eC,.int .i64 f.held,.bool f.bT,.bool f.used] 167));have B0:=aD.new w 167 #[.int .i64 f.an,.string f.eC,.int .i64 f.held,.bool f.bT,.bool f.used];have c0:=B0.ab (i:=0) rfl;have HB:=xh hb;have hq1:=(O0.o.cell (db hq)).trans hq;clear hb hq B0;unfold Fr.agg;go_enter Tryz.func221,Tryz.ntmps221;go_wp2_with fail;go_ret;exact⟨by rw[HB.o];rfl,O0.o⟩
theorem AB(g n c q:Nat)(p:Int)(l:List Fr)(h:qf w g l)(hl:l.length=n)(hn:n<=1000000)(hq:w.cell? ⟨q,0,none⟩=some (.int .i64 p)):
  Calls Tryz.prog 220 #[.slice (some ⟨g,0,none⟩) n c,.func (Fn.func 221) #[] #[.pointer (some ⟨q,0,none⟩)]] w λe w'=>e=.returned (.int .i64 (xW (λf=>decide (f.an=p)) l))/\Below w.heap.size w w':=by
 have HL:=xh hl;have H0:=xh h;have HQ:=xh hq;clear h hq hl;go_enter Tryz.func220,Tryz.ntmps220;go_wp2_with fail
 go_loopw [8] (λiv wr=> ∃i:Nat,i<=n/\iv=.int .i64 i/\Hid (∀j a,j<i->l[j]?=some a->decide (a.an=p)=false)/\Hid (Below w.heap.size w wr)) (λiv _=>n-(intOf iv).toNat)
 case atStart=>exact⟨0,bm _,rfl,xh (λj a hj=>absurd hj (jP j)),xh (Below.refl _ _)⟩
 case round=>
  obtain⟨i,hi,rfl,HA,HB⟩:=hrel
  by_cases h:i<n
  .have hf:l[i]?=some (l[i]'(by have:=HL.o;omega)):=aN _;generalize (l[i]'(by have:=HL.o;omega))=f at hf;obtain⟨c0,c1,c2,c3,c4⟩:=(H0.o.below HB.o) i f hf;have KF:=xh (l9 f q p wr ((HB.o.cell (db HQ.o)).trans HQ.o) _ rfl);have HF:=xh hf;clear hf;unfold Fr.agg at KF;obtain⟨b,hb⟩:∃b,decide (f.an=p)=b:=⟨_,rfl⟩;rw[hb]at KF;have HD:=xh hb;clear hb;go_wp2_with fail;refine KF.o.mono ?_;rintro e w1 ⟨rfl,aL⟩
   have GK:=xh (ao HB.o aL);clear aL
   cases b with
   |true=>
    have he:=xh (rh (b:=λf=>decide (f.an=p)) HF.o HD.o HA.o);go_wp2_with fail;go_ret;exact⟨by rw[he.o];rfl,GK.o⟩
   |false=>
    go_wp2_with fail;go_roundw
    case rel=>
     refine⟨i+1,by omega,by go_num,xh (λj a hj ha=>?_),GK⟩
     rcases lW.1 hj with hj|rfl
     .exact HA.o j a hj ha
     .have:=HF.o.symm.trans ha;injection this with this
      subst this;exact HD.o
    case measure=>simp[intOf];omega
  .have he:=xh (rZ (b:=λf=>decide (f.an=p)) (l:=l) (λj a ha=>HA.o j a (by have:=(aR.1 ha).1;have:=HL.o;omega) ha));go_wp2_with fail;go_ret;exact⟨by rw[he.o];rfl,HB.o⟩
end Go.Proofs.YtmonobkginiajaaGreat.Sh
namespace Go.Proofs.YtmonobkginiajaaGreat.Sh
open Go.RowKit Pk Dk Pg
attribute [local go_sem ↓] Go.wp_at_zero Go.wp_at_succ aW
variable{w:World}{v:Value}
theorem AE:(Tryz.prog.info? 167).map (λi=>(i.zero,i.size,i.bytes))=some (some (.agg #[.int .i64 0,.string ⟨#[]⟩,.int .i64 0,.bool false,.bool false]),5,40):=by kernel_rfl
theorem AF(l k:List Fr):wD (l++k)=wD l++wD k:=by simp[wD]
theorem AG{a b c:World}(h:Below w.heap.size w a)(k:Below a.heap.size a b)(o:ag (ah v) b c)(hf:∀g∈ah v,w.heap.size<=g):Below w.heap.size w c:=
 (ao h k).trans (o.aE (au h.size k.size) hf)
theorem append_nil{n:Nat}{l:List Fr}(h:aQ w 167 5 v n (wD l))(hn:n<=1000):
  ∃v' w',dG Tryz.prog 141 141 (w.alloc (.cells #[.int .i64 (-1),.string ⟨#[]⟩,.int .i64 0,.bool false,.bool false] 167)) v (.slice (some ⟨w.heap.size,0,none⟩) 1 1)= .ok v' w'/\aQ w' 167 5 v' (n+1) (wD (l++[Fr.nil]))/\ag (ah v) w w'/\(∀g∈ah v',g∈ah v\/w.heap.size<=g):=by
 obtain⟨i0,hi,jb,gW,iS⟩:=info_parts AE;obtain⟨v',w',h1,h2,h3,h4⟩:=cQ (P:=Tryz.prog) (h.alloc (.cells #[.int .i64 (-1),.string ⟨#[]⟩,.int .i64 0,.bool false,.bool false] 167)) 141 141 i0 _ 40 Tryz.underlying141 hi jb gW iS rfl (by omega)
  ⟨w.heap.size,0,none⟩ 1 1 Fr.nil.cs rfl (aZ (l:=Fr.nil.cs) (aD.new w _ #[.int .i64 (-1),.string ⟨#[]⟩,.int .i64 0,.bool false,.bool false]) 0 _ (by intro j u hu;rw[bt];exact hu)) (by intro u hu;simp[Fr.cs,Fr.nil]at hu;rcases hu with rfl|rfl|rfl|rfl<;>rfl) (by unfold maxLen;omega) (by omega)
 refine⟨v',w',h1,?_,((ag.refl _ _).alloc _).bw h3 (λx hx _=>hx),λg hg=>(h4 g hg).imp id (λh=>by simp at h;omega)⟩;rw[AF];exact h2
theorem GL(b k:Nat)(h1:1<=k)(h2:k<=32):
  Calls Tryz.prog 34 #[sp b,.int .i64 (k:Nat)] w λe w'=> ∃pb v,e=.returned (.tuple #[.pointer (some ⟨pb,0,none⟩),.int .i64 0])/\aD w' pb 143 #[sp b,v,.int .i64 0]/\aQ w' 167 5 v k (wD (List.replicate k Fr.nil))/\Below w.heap.size w w'/\w.heap.size<=pb/\∀g∈ah v,w.heap.size<=g:=by
 have KE:=xh l8;have O0:=xh (ae (Below.refl w.heap.size w) (.cells #[sp b,.slice none 0 0,.int .i64 0] 143));have B0:=xh (aD.new w 143 #[sp b,.slice none 0 0,.int .i64 0]);have k1:¬(k:Int)<1:=by omega
 have k2:¬(32:Int)<(k:Int):=by omega
 unfold sp at *;go_enter Tryz.func34,Tryz.ntmps34;go_wp2_with fail;generalize hwa:w.alloc (.cells #[.pointer (some ⟨b,0,none⟩),.slice none 0 0,.int .i64 0] 143)=wa at *;clear hwa
 go_loopw [21] (λiv wr=> ∃i:Nat,i<=k/\iv=.int .i64 i/\∃v,Hid (aD wr w.heap.size 143 #[.pointer (some ⟨b,0,none⟩),v,.int .i64 0])/\Hid (aQ wr 167 5 v i (wD (List.replicate i Fr.nil)))/\Hid (Below w.heap.size w wr)/\Hid (∀g∈ah v,w.heap.size<=g)) (λiv _=>k-(intOf iv).toNat)
 case atStart=>exact⟨0,bm _,rfl,.slice none 0 0,B0,xh (aQ.nil _ _ _),O0,xh (by simp[ah])⟩
 case round=>
  obtain⟨i,hi,rfl,v,BP,SP,OB,FR⟩:=hrel
  by_cases h:i<k
  .obtain⟨A,cc,rfl⟩:=aq SP.o;have hI:(i:Int)<(k:Int):=by omega
   have OD:=xh (show Below wr.heap.size wr wr.drew from(Below.refl _ _).drew);have c0:=BP.o.ab (i:=1) rfl;have NB:=xh (show w.heap.size∉ah (.slice A i cc)from cy SP.o BP.o (by decide));go_wp2_with fail;refine wp_region_held_drew (S:=λ_=>True) (by kernel_rfl) (trivial) (λaw=>?_);refine dq [(0,23),(1,24),(2,25),(3,26)] ?_
   iterate 4 refine za ?_
   refine wpAnyH_ready (rs:=[4,5]) (by kernel_rfl) (by simp) ?_;refine AllReadyH.cons (o:=⟨some 27,_,_,_,_,_⟩) rfl (λK hK=>?_) (AllReadyH.cons (o:=⟨some 28,_,_,_,_,_⟩) rfl (λK hK=>?_) AllReadyH.nil)
   .skip
    go_simp;refine zh hK (trivial) (λaw=>?_);refine zd 5 28 λK hK=>?_;go_simp
    go_at_call 86
    refine(KE.o _).mono ?_;rintro e v1 ⟨rfl,l5⟩;have P1:=xh (ao OD.o l5);have BP1:=xh (BP.o.below P1.o BP.o.lt);have SP1:=xh (SP.o.below P1.o);have cl:=BP1.o.ab (i:=1) rfl;clear l5;unfold Fr.nil Fr.agg;go_simp;refine zh hK (trivial) (λaw=>?_);refine zd 6 29 λK hK=>?_;go_simp;obtain⟨v2,w2,ea,S2,Fz,CF⟩:=append_nil SP1.o (by omega);obtain⟨A2,wE,rfl⟩:=aq S2;have EA:=xh ea;have SP2:=xh S2;have OW2:=xh Fz
    have FR2:=xh CF;have CH:=xh (BP1.o.only OW2.o NB.o);clear ea S2 Fz CF cl;refine zh hK (trivial) (λaw=>?_);refine zd 7 30 λK hK=>?_;go_simp;rw[EA.o];go_simp;refine zh hK (trivial) (λaw=>?_);refine dq [(8,31),(9,32)] ?_
    iterate 2 refine za ?_
    refine zf 10 λK hK=>?_;go_simp;have q0:=CH.o.ab (i:=1) rfl;have q1:=CH.o.frozen 1 (by simp);go_simp;refine zh hK (trivial) (λaw=>?_);refine wpAnyH_done (by kernel_rfl) ?_ _;have BP3:=CH.o.bu 1 (.slice A2 (i+1) wE);have SP3:=SP2.o.only ((ag.refl [w.heap.size] w2).setCell (p:=⟨w.heap.size,1,none⟩) (by simp) (.slice A2 (i+1) wE)) (λg hg hm=>by simp at hm;subst hm;exact cy SP2.o CH.o (by decide) hg)
    have O3:=Below.setCell (AG OB.o P1.o OW2.o FR.o) (p:=⟨w.heap.size,1,none⟩) (ak _) (.slice A2 (i+1) wE);have CI:∀g∈ah (.slice A2 (i+1) wE),w.heap.size<=g:=λg hg=>(FR2.o g hg).elim (FR.o g) (λh=>by have:=OB.o.size;have:=P1.o.size;omega);have BP4:=xh BP3;have SP4:=xh SP3;have O4:=xh O3;have HFR:=xh CI;clear BP3 SP3 O3 CI q0 q1;go_wp2_with fail;go_roundw
    case rel=>
     refine⟨i+1,by omega,by go_num,.slice A2 (i+1) wE,BP4,?_,O4,HFR⟩;rw[show List.replicate (i+1) Fr.nil=List.replicate i Fr.nil++[Fr.nil]from nD];exact SP4
    case measure=>simp[intOf];omega
   .skip
    go_simp
    go_at_call 86
    refine(KE.o _).mono ?_;rintro e v1 ⟨rfl,l5⟩;have P1:=xh (ao OD.o l5);have BP1:=xh (BP.o.below P1.o BP.o.lt);have SP1:=xh (SP.o.below P1.o);have cl:=BP1.o.ab (i:=1) rfl;clear l5;unfold Fr.nil Fr.agg;go_simp;refine zh hK (trivial) (λaw=>?_);refine wpAnyH_ready (rs:=[4,6]) (by kernel_rfl) (by simp) ?_;refine AllReadyH.cons (o:=⟨some 27,_,_,_,_,_⟩) rfl (λK hK=>?_) (AllReadyH.cons (o:=⟨some 29,_,_,_,_,_⟩) rfl (λK hK=>?_) AllReadyH.nil)
    .skip
     go_simp;refine zh hK (trivial) (λaw=>?_);refine zd 6 29 λK hK=>?_;go_simp;obtain⟨v2,w2,ea,S2,Fz,CF⟩:=append_nil SP1.o (by omega);obtain⟨A2,wE,rfl⟩:=aq S2;have EA:=xh ea;have SP2:=xh S2;have OW2:=xh Fz;have FR2:=xh CF;have CH:=xh (BP1.o.only OW2.o NB.o);clear ea S2 Fz CF cl;refine zh hK (trivial) (λaw=>?_);refine zd 7 30 λK hK=>?_;go_simp;rw[EA.o];go_simp;refine zh hK (trivial) (λaw=>?_);refine dq [(8,31),(9,32)] ?_
     iterate 2 refine za ?_
     refine zf 10 λK hK=>?_;go_simp;have q0:=CH.o.ab (i:=1) rfl;have q1:=CH.o.frozen 1 (by simp);go_simp;refine zh hK (trivial) (λaw=>?_);refine wpAnyH_done (by kernel_rfl) ?_ _;have BP3:=CH.o.bu 1 (.slice A2 (i+1) wE);have SP3:=SP2.o.only ((ag.refl [w.heap.size] w2).setCell (p:=⟨w.heap.size,1,none⟩) (by simp) (.slice A2 (i+1) wE)) (λg hg hm=>by simp at hm;subst hm;exact cy SP2.o CH.o (by decide) hg)
     have O3:=Below.setCell (AG OB.o P1.o OW2.o FR.o) (p:=⟨w.heap.size,1,none⟩) (ak _) (.slice A2 (i+1) wE);have CI:∀g∈ah (.slice A2 (i+1) wE),w.heap.size<=g:=λg hg=>(FR2.o g hg).elim (FR.o g) (λh=>by have:=OB.o.size;have:=P1.o.size;omega);have BP4:=xh BP3;have SP4:=xh SP3;have O4:=xh O3;have HFR:=xh CI;clear BP3 SP3 O3 CI q0 q1;go_wp2_with fail;go_roundw
     case rel=>
      refine⟨i+1,by omega,by go_num,.slice A2 (i+1) wE,BP4,?_,O4,HFR⟩;rw[show List.replicate (i+1) Fr.nil=List.replicate i Fr.nil++[Fr.nil]from nD];exact SP4
     case measure=>simp[intOf];omega
    .skip
     go_simp;obtain⟨v2,w2,ea,S2,Fz,CF⟩:=append_nil SP1.o (by omega);obtain⟨A2,wE,rfl⟩:=aq S2;have EA:=xh ea;have SP2:=xh S2;have OW2:=xh Fz;have FR2:=xh CF;have CH:=xh (BP1.o.only OW2.o NB.o);clear ea S2 Fz CF cl;have cl:=(BP1.o.alloc (.cells #[.int .i64 (-1),.string ⟨#[]⟩,.int .i64 0,.bool false,.bool false] 167)).ab (i:=1) rfl;refine zh hK (trivial) (λaw=>?_);refine zd 4 27 λK hK=>?_;go_simp
     refine zh hK (trivial) (λaw=>?_);refine zd 7 30 λK hK=>?_;go_simp;rw[EA.o];go_simp;refine zh hK (trivial) (λaw=>?_);refine dq [(8,31),(9,32)] ?_
     iterate 2 refine za ?_
     refine zf 10 λK hK=>?_;go_simp;have q0:=CH.o.ab (i:=1) rfl;have q1:=CH.o.frozen 1 (by simp);go_simp;refine zh hK (trivial) (λaw=>?_);refine wpAnyH_done (by kernel_rfl) ?_ _;have BP3:=CH.o.bu 1 (.slice A2 (i+1) wE);have SP3:=SP2.o.only ((ag.refl [w.heap.size] w2).setCell (p:=⟨w.heap.size,1,none⟩) (by simp) (.slice A2 (i+1) wE)) (λg hg hm=>by simp at hm;subst hm;exact cy SP2.o CH.o (by decide) hg)
     have O3:=Below.setCell (AG OB.o P1.o OW2.o FR.o) (p:=⟨w.heap.size,1,none⟩) (ak _) (.slice A2 (i+1) wE);have CI:∀g∈ah (.slice A2 (i+1) wE),w.heap.size<=g:=λg hg=>(FR2.o g hg).elim (FR.o g) (λh=>by have:=OB.o.size;have:=P1.o.size;omega);have BP4:=xh BP3;have SP4:=xh SP3;have O4:=xh O3;have HFR:=xh CI;clear BP3 SP3 O3 CI q0 q1;go_wp2_with fail;go_roundw
     case rel=>
      refine⟨i+1,by omega,by go_num,.slice A2 (i+1) wE,BP4,?_,O4,HFR⟩;rw[show List.replicate (i+1) Fr.nil=List.replicate i Fr.nil++[Fr.nil]from nD];exact SP4
     case measure=>simp[intOf];omega
  .have e:i=k:=by omega
   subst e;go_wp2_with fail;go_ret2;exact⟨w.heap.size,v,by first|rfl|simp,BP.o,SP.o,OB.o,ak _,FR.o⟩
end Go.Proofs.YtmonobkginiajaaGreat.Sh
namespace Go.Proofs.YtmonobkginiajaaGreat.Sh
open Go.RowKit Pk Dk Pg
attribute [local go_sem ↓] Go.wp_at_zero Go.wp_at_succ
structure Y where
 x:X
 pb:Nat
 fg:Nat
 cp:Nat
structure PS where
 c:C
 l:List Fr
 hand:Nat
def pp(b:Nat):Value:= .pointer (some ⟨b,0,none⟩)
def Y.fp(y:Y):List Nat:=y.pb::y.fg::y.x.fp
structure fG(w:World)(y:Y)(n:Nat)(s:PS):Prop where
 hp:aD w y.pb 143 #[sp y.x.b,.slice (some ⟨y.fg,0,none⟩) s.l.length y.cp,.int .i64 (s.hand:Nat)]
 hf:aQ w 167 5 (.slice (some ⟨y.fg,0,none⟩) s.l.length y.cp) s.l.length (wD s.l)
 hs:At w y.x n s.c
 n1:y.pb∉y.x.fp
 n2:y.fg∉y.x.fp
 l1:1<=s.l.length
 l2:s.l.length<=32
 lh:s.hand<s.l.length
section
variable{w w':World}{y:Y}{n:Nat}{s:PS}{S:List Nat}
theorem fG.n3(h:fG w y n s):y.pb≠y.fg:=λe=>cy h.hf h.hp (by decide) (by simp[ah,e])
theorem fG.only(h:fG w y n s)(ho:ag S w w')(hd:∀g∈y.fp,g∉S):fG w' y n s:=
 ⟨h.hp.only ho (hd _ (by simp[Y.fp])),h.hf.only ho (λg hg=>hd g (by simp[ah]at hg;simp[Y.fp,hg])),h.hs.only ho (λg hg=>hd g (by simp[Y.fp,hg])),h.n1,h.n2,h.l1,h.l2,h.lh⟩
theorem fG.below(h:fG w y n s)(hb:Below w.heap.size w w'):fG w' y n s:=h.only (S:=[]) (.aj hb) (by simp)
theorem fG.drew(h:fG w y n s):fG w.drew y n s:=h.below ((Below.refl _ _).drew)
theorem fG.lt(h:fG w y n s):∀g∈y.fp,g<w.heap.size:=by
 intro g hg;simp only[Y.fp,aC]at hg
 rcases hg with rfl|rfl|hg
 .exact h.hp.lt
 .exact h.hf.lt _ (by simp[ah])
 .exact h.hs.lt g hg
theorem fG.p0(h:fG w y n s):w.cell? ⟨y.pb,0,none⟩=some (.pointer (some ⟨y.x.b,0,none⟩)):=h.hp.ab rfl
theorem fG.p1(h:fG w y n s):w.cell? ⟨y.pb,1,none⟩=some (.slice (some ⟨y.fg,0,none⟩) s.l.length y.cp):=h.hp.ab rfl
theorem fG.p2(h:fG w y n s):w.cell? ⟨y.pb,2,none⟩=some (.int .i64 (s.hand:Nat)):=h.hp.ab rfl
theorem fG.wF(h:fG w y n s):qf w y.fg s.l:=by
 obtain⟨rest,B,_⟩:=h.hf.oO;exact .of B
theorem fG.store(h:fG w y n s){c':C}(p:∃x',x'.b=y.x.b/\x'.L=y.x.L/\At w' x' n c'/\ag y.x.fp w w'/\∀g∈x'.fp,g∈y.x.fp\/w.heap.size<=g):
  ∃y',y'.pb=y.pb/\y'.fg=y.fg/\y'.cp=y.cp/\y'.x.b=y.x.b/\y'.x.L=y.x.L/\fG w' y' n {s with c:=c'}/\ag y.fp w w'/\∀g∈y'.fp,g∈y.fp\/w.heap.size<=g:=by
 obtain⟨x',e1,e2,A,o,fr⟩:=p;have l1:=h.lt y.pb (by simp[Y.fp]);have l2:=h.lt y.fg (by simp[Y.fp]);refine⟨⟨x',y.pb,y.fg,y.cp⟩,rfl,rfl,rfl,e1,e2,⟨?_,h.hf.only o (λg hg=>by simp[ah]at hg;subst hg;exact h.n2),A,?_,?_,h.l1,h.l2,h.lh⟩,o.mono (λg hg _=>by simp[Y.fp,hg]),?_⟩
 .show aD w' y.pb _ #[sp x'.b,_,_];rw[e1];exact h.hp.only o h.n1
 .exact λhg=>(fr _ hg).elim h.n1 (λh=>absurd l1 (qZ.2 h))
 .exact λhg=>(fr _ hg).elim h.n2 (λh=>absurd l2 (qZ.2 h))
 .intro g hg;simp only[Y.fp,aC]at hg ⊢
  rcases hg with rfl|rfl|hg
  .exact .inl (.inl rfl)
  .exact .inl (.inr (.inl rfl))
  .exact(fr g hg).imp (λh=> .inr (.inr h)) id
end
theorem fC{w:World}{y:Y}{n:Nat}{s:PS}(h:fG w y n s)(l:Int):
  Calls Tryz.prog 178 #[pp y.pb,.int .i64 l] w λe w'=>e=.returned (.int .i64 (findF s.l l))/\Below w.heap.size w w':=by
 have O0:=xh (ae (Below.refl w.heap.size w) (.cells #[.int .i64 l] 3));have B0:=xh (aD.new w 3 #[.int .i64 l]);have H0:=h.below O0.o;have q0:=B0.o.ab (i:=0) rfl;have KI:=xh (AB y.fg s.l.length y.cp w.heap.size l s.l H0.wF rfl (by have:=h.l2;omega) q0);have p1:=H0.p1;obtain⟨R,hR⟩:∃R,findF s.l l=R:=⟨_,rfl⟩;rw[hR];unfold findF at hR;generalize s.l.length=tn at *;clear H0 h;unfold pp
 by_cases h1:l<0
 .rw[if_pos h1]at hR;subst hR;go_enter Tryz.func178,Tryz.ntmps178;go_wp2_with fail;go_ret;exact⟨by first|rfl|simp,O0.o⟩
 .rw[if_neg h1]at hR;rw[hR]at KI;clear hR;go_enter Tryz.func178,Tryz.ntmps178;go_wp2_with fail;refine KI.o.mono ?_;rintro e w1 ⟨rfl,aL⟩;have O1:=xh (ao O0.o aL);clear aL;go_wp2_with fail;go_ret;exact⟨by first|rfl|simp,O1.o⟩
theorem frc_set(l:List Fr)(k j:Nat)(hj:j<5)(f f':Fr)(u:Value)(hf:l[k]?=some f)(hu:f'.cs=f.cs.set j u):(wD l).set (k*5+j) u=wD (l.set k f'):=by
 induction l generalizing k with
 |nil=>simp at hf
 |cons a l ih=>
  have e5:a.cs.length=5:=rfl
  cases k with
  |zero=>
   simp at hf;subst hf;simp only[wD,ie,List.set_cons_zero,q5,bt]at ih ⊢;rw[qQ _ _ (by omega),hu]
  |succ k=>
   simp at hf;have:=ih k hf;simp only[wD,ie,List.set_cons_succ]at this ⊢;rw[qR _ _ (by omega),e5,show(k+1)*5+j-5=k*5+j from by omega,this]
section
variable{w w':World}{y:Y}{n:Nat}{s:PS}{S:List Nat}
theorem fG.dX(h:fG w y n s)(k j:Nat)(hj:j<5){f:Fr}(f':Fr)(u:Value)(hf:s.l[k]?=some f)(hu:f'.cs=f.cs.set j u):
  w.frozen? ⟨y.fg,k*5+j,none⟩=false/\fG (w.setCell ⟨y.fg,k*5+j,none⟩ u) y n {s with l:=s.l.set k f'}/\ag y.fp w (w.setCell ⟨y.fg,k*5+j,none⟩ u):=by
 have hk:k<s.l.length:=(aR.1 hf).1;have hl:=jB s.l;obtain⟨rest,B,hr,_,hm⟩:=h.hf.oO;have o:ag [y.fg] w (w.setCell ⟨y.fg,k*5+j,none⟩ u):=(ag.refl _ _).setCell (by simp) _;have B2:=B.bu (k*5+j) u;rw[nE,qQ _ _ (by omega),frc_set s.l k j hj f f' u hf hu]at B2
 refine⟨B.frozen _ (by simp;omega),⟨?_,?_,h.hs.only o (λg hg hm=>by simp at hm;subst hm;exact h.n2 hg),h.n1,h.n2,by simpa using h.l1,by simpa using h.l2,by simpa using h.lh⟩,o.mono (λg hg _=>by simp at hg;subst hg;simp[Y.fp])⟩
 .have:=h.hp.only o (by simpa using h.n3);simpa using this
 .refine⟨by rw[jB],.inr ⟨y.fg,y.cp,rest,by simp,B2,by rw[jB,bH];omega,hm⟩⟩
theorem fG.setH(h:fG w y n s)(k:Nat)(hk:k<s.l.length):
  w.frozen? ⟨y.pb,2,none⟩=false/\fG (w.setCell ⟨y.pb,2,none⟩ (.int .i64 (k:Nat))) y n {s with hand:=k}/\ag y.fp w (w.setCell ⟨y.pb,2,none⟩ (.int .i64 (k:Nat))):=by
 have o:ag [y.pb] w (w.setCell ⟨y.pb,2,none⟩ (.int .i64 (k:Nat))):=(ag.refl _ _).setCell (by simp) _;have n3:=h.n3;refine⟨h.hp.frozen 2 (by simp),⟨h.hp.bu 2 _,h.hf.only o (λg hg hm=>by simp[ah]at hg hm;omega),h.hs.only o (λg hg hm=>by simp at hm;subst hm;exact h.n1 hg),h.n1,h.n2,h.l1,h.l2,hk⟩,o.mono (λg hg _=>by simp at hg;subst hg;simp[Y.fp])⟩
end
theorem wG(b:Fr->Bool)(l:List Fr):xW b l= -1\/∃k f,xW b l=((k:Nat):Int)/\l[k]?=some f/\b f=true:=by
 unfold xW
 by_cases h:l.findIdx b<l.length
 .rw[if_pos h];exact .inr ⟨l.findIdx b,l[l.findIdx b],rfl,aN h,mO⟩
 .rw[if_neg h];exact .inl rfl
theorem eR(l:List Fr)(p:Int):findF l p= -1\/∃k f,findF l p=((k:Nat):Int)/\l[k]?=some f/\f.an=p/\0<=p:=by
 unfold findF
 by_cases h:p<0
 .rw[if_pos h];exact .inl rfl
 .rw[if_neg h];exact(wG _ l).imp id (λ⟨k,f,e1,e2,e3⟩=>⟨k,f,e1,e2,by simpa using e3,by omega⟩)
def PS.fe(s:PS)(p:Int):Option (Nat×Fr):=
 if findF s.l p<0 then none else match s.l[(findF s.l p).toNat]? with
  |none=>none
  |some f=>if f.held=0 then none else some ((findF s.l p).toNat,f)
def nV(y:Y):Option (Nat×Fr)->Value
 |none=> .tuple #[.pointer none,.int .i64 16]
 |some (k,_)=> .tuple #[.pointer (some ⟨y.fg,k*5,none⟩),.int .i64 0]
theorem r5{w:World}{y:Y}{n:Nat}{s:PS}(h:fG w y n s)(p:Int):
  Calls Tryz.prog 230 #[pp y.pb,.int .i64 p] w λe w'=>e=.returned (nV y (s.fe p))/\Below w.heap.size w w':=by
 have KF:=xh (fC h p);have HB:=xh (λw' (hb:Below w.heap.size w w')=>h.below hb);obtain⟨R,hR⟩:∃R,nV y (s.fe p)=R:=⟨_,rfl⟩;rw[hR];unfold PS.fe at hR;unfold pp at *
 rcases eR s.l p with e|⟨k,f,e,hf,_,_⟩
 .rw[e,if_pos (by omega)]at hR;rw[e]at KF;subst hR;unfold nV;clear h e;go_enter Tryz.func230,Tryz.ntmps230;go_wp2_with fail;refine KF.o.mono ?_;rintro e w1 ⟨rfl,aL⟩;have O1:=xh aL;clear aL;go_wp2_with fail;go_ret2;exact⟨by first|rfl|simp,O1.o⟩
 .rw[e,if_neg (by omega),show((k:Nat):Int).toNat=k from by omega,hf]at hR;rw[e]at KF;have hk:k<s.l.length:=(aR.1 hf).1;have FA:(k:Int)<(s.l.length:Int):=by omega
  have hk0:¬(k:Int)<0:=by omega
  have HX:=xh (λw' (hb:Below w.heap.size w w')=>(show w'.cell? ⟨y.pb,1,none⟩=some (.slice (some ⟨y.fg,0,none⟩) s.l.length y.cp)/\w'.cell? ⟨y.fg,k*5+2,none⟩=some (.int .i64 f.held)from⟨(HB.o w' hb).p1,((HB.o w' hb).wF k f hf).2.2.1⟩));have HL:=xh (show s.l.length<=32 from h.l2);dsimp only at hR
  by_cases hh:f.held=0
  .rw[if_pos hh]at hR;subst hR;have hq:(f.held==0)=true:=by rw[beq_iff_eq];exact hh
   unfold nV;clear h e hf hk hh;generalize f.held=fh at *;generalize s.l.length=tn at *;go_enter Tryz.func230,Tryz.ntmps230;go_wp2_with fail;refine KF.o.mono ?_;rintro e w1 ⟨rfl,aL⟩;have O1:=xh aL;obtain⟨x1,x2⟩:=HX.o w1 aL;clear aL;go_wp2_with fail;go_ret2;exact⟨by first|rfl|simp,O1.o⟩
  .rw[if_neg hh]at hR;subst hR;have hq:(f.held==0)=false:=by rw[beq_eq_false_iff_ne];exact hh
   unfold nV;clear h e hf hk hh;generalize f.held=fh at *;generalize s.l.length=tn at *;go_enter Tryz.func230,Tryz.ntmps230;go_wp2_with fail;refine KF.o.mono ?_;rintro e w1 ⟨rfl,aL⟩;have O1:=xh aL;obtain⟨x1,x2⟩:=HX.o w1 aL;clear aL;go_wp2_with fail;go_ret2;exact⟨by first|rfl|simp,O1.o⟩
variable{w:World}{y:Y}{n:Nat}
def PS.fm(s:PS)(p:Int):PS×Int:=match s.fe p with
 |none=>(s,16)
 |some (k,f)=>({s with l:=s.l.set k {f with held:=f.held-1}},0)
theorem r6{s:PS}{p:Int}{k:Nat}{f:Fr}(h:s.fe p=some (k,f)):s.l[k]?=some f/\f.held≠0/\findF s.l p=k:=by
 unfold PS.fe at h
 rcases eR s.l p with e|⟨j,g,e,hf,_,_⟩
 .rw[e,if_pos (by omega)]at h
  cases h
 .rw[e,if_neg (by omega),show((j:Nat):Int).toNat=j from by omega,hf]at h;dsimp only at h
  split at h
  .cases h
  .rename_i hh;injection h with h
   injection h with h1 h2
   subst h1 h2;exact⟨hf,hh,e⟩
def PostP(w w':World)(y:Y)(n:Nat)(s':PS):Prop:= ∃y',y'.pb=y.pb/\y'.fg=y.fg/\y'.cp=y.cp/\y'.x.b=y.x.b/\y'.x.L=y.x.L/\fG w' y' n s'/\ag y.fp w w'/\∀g∈y'.fp,g∈y.fp\/w.heap.size<=g
theorem let_any{s:PS}(h:fG w y n s)(p:Int)(hb:∀f∈s.l,-1000<=f.held/\f.held<=4000000000000):
  Calls Tryz.prog 214 #[pp y.pb,.int .i64 p] w λe w'=>e=.returned (.int .i64 (s.fm p).2)/\fG w' y n (s.fm p).1/\ag y.fp w w':=by
 have KH:=xh (r5 h p);have HB:=xh (λw' (hb:Below w.heap.size w w')=>h.below hb);obtain⟨R,hR⟩:∃R,s.fm p=R:=⟨_,rfl⟩;rw[hR];unfold PS.fm at hR;unfold pp at *
 cases hd:s.fe p with
 |none=>
  rw[hd]at hR KH;dsimp only at hR;subst hR;unfold nV at KH;clear h hd hb;go_enter Tryz.func214,Tryz.ntmps214;go_wp2_with fail;refine KH.o.mono ?_;rintro e w1 ⟨rfl,aL⟩;have O1:=xh aL;clear aL;go_wp2_with fail;go_ret;exact⟨by first|rfl|simp,HB.o _ O1.o,.aj O1.o⟩
 |some r=>
  obtain⟨k,f⟩:=r;obtain⟨hf,hh,_⟩:=r6 hd;rw[hd]at hR KH;dsimp only at hR;subst hR;have hfb:=hb f (az hf);have HS:=xh (λw' (hb:Below w.heap.size w w')=>(HB.o w' hb).dX k 2 (by omega) {f with held:=f.held-1} (.int .i64 (f.held-1)) hf rfl);have HC:=xh (λw' (hb:Below w.heap.size w w')=>((HB.o w' hb).wF k f hf).2.2.1);have m1:IntKind.i64.wrap (f.held-1)=f.held-1:=IntWalk.i64_in _ (by omega);unfold nV at KH;clear h hd hb hf hfb hh
  generalize f.held=fh at *;go_enter Tryz.func214,Tryz.ntmps214;go_wp2_with fail;refine KH.o.mono ?_;rintro e w1 ⟨rfl,aL⟩;have O1:=xh aL;obtain⟨z1,A1,o1⟩:=HS.o w1 aL;have A1:=xh A1;have o1:=xh o1;have c1:=HC.o w1 aL;clear aL;go_wp2_with fail;go_ret;exact⟨by first|rfl|simp,A1.o,(ag.aj O1.o).trans o1.o⟩
theorem DS{s:PS}(h:fG w y n s)(v:ByteArray)(hs:v.size<=9223372036854775807)(Dw:0<=s.c.ep/\s.c.ep<=1099511627776)(hc:s.c.d.calls<=3999999999999999990)(hr:s.c.d.aT<=9223372036854775807):
  Calls Tryz.prog 69 #[pp y.pb,.string v] w λe w'=>e=.returned (.tuple #[.int .i64 (s.c.bh n v.data.toList).2.1,.int .i64 (s.c.bh n v.data.toList).2.2])/\PostP w w' y n {s with c:=(s.c.bh n v.data.toList).1}:=by
 have KN:=xh (new_any h.hs v hs Dw hc hr);have HP:=xh (λw' (p:Post w w' y.x n (s.c.bh n v.data.toList).1)=>(show PostP w w' y n {s with c:=(s.c.bh n v.data.toList).1}from h.store p));have p0:=h.p0;generalize (s.c.bh n v.data.toList)=R at *;clear h hs Dw hc hr;unfold pp sp at *;go_enter Tryz.func69,Tryz.ntmps69;go_wp2_with fail;refine KN.o.mono ?_;rintro e w1 ⟨rfl,P1⟩;have P2:=xh (HP.o w1 P1);clear P1;go_wp2_with fail;go_ret2;exact⟨by first|rfl|simp,P2.o⟩
theorem AH{s:PS}(h:fG w y n s):
  Calls Tryz.prog 28 #[pp y.pb] w λe w'=>e=.returned (sp y.x.b)/\w=w':=by
 have p0:=h.p0;clear h;unfold pp sp at *;go_enter Tryz.func28,Tryz.ntmps28;go_wp2_with fail;go_ret;exact⟨by first|rfl|simp,rfl⟩
variable{w:World}
theorem DT(f:Fr)(w:World)(b:Bool)(hb:b=decide (f.an<0)):
  Calls Tryz.prog 244 #[f.agg] w λe w'=>e=.returned (.bool b)/\Below w.heap.size w w':=by
 have O0:=xh ((Below.refl w.heap.size w).alloc (ak _) (.cells #[.int .i64 f.an,.string f.eC,.int .i64 f.held,.bool f.bT,.bool f.used] 167));have B0:=aD.new w 167 #[.int .i64 f.an,.string f.eC,.int .i64 f.held,.bool f.bT,.bool f.used];have c0:=B0.ab (i:=0) rfl;have HB:=xh hb;clear hb B0;unfold Fr.agg;go_enter Tryz.func244,Tryz.ntmps244;go_wp2_with fail;go_ret;exact⟨by rw[HB.o];first|rfl|simp,O0.o⟩
theorem AJ(g n c:Nat)(l:List Fr)(h:qf w g l)(hl:l.length=n)(hn:n<=1000000):
  Calls Tryz.prog 220 #[.slice (some ⟨g,0,none⟩) n c,.func (Fn.func 244) #[] #[]] w λe w'=>e=.returned (.int .i64 (xW (λf=>decide (f.an<0)) l))/\Below w.heap.size w w':=by
 have HL:=xh hl;have H0:=xh h;clear h hl;go_enter Tryz.func220,Tryz.ntmps220;go_wp2_with fail
 go_loopw [8] (λiv wr=> ∃i:Nat,i<=n/\iv=.int .i64 i/\Hid (∀(j:Nat) (a:Fr),j<i->l[j]?=some a->decide (a.an<0)=false)/\Hid (Below w.heap.size w wr)) (λiv _=>n-(intOf iv).toNat)
 case atStart=>exact⟨0,bm _,rfl,xh (λj a hj=>absurd hj (jP j)),xh (Below.refl _ _)⟩
 case round=>
  obtain⟨i,hi,rfl,HA,HB⟩:=hrel
  by_cases h:i<n
  .have hf:l[i]?=some (l[i]'(by have:=HL.o;omega)):=aN _;generalize (l[i]'(by have:=HL.o;omega))=f at hf;obtain⟨c0,c1,c2,c3,c4⟩:=(H0.o.below HB.o) i f hf;have KF:=xh (DT f wr _ rfl);have HF:=xh hf;clear hf;unfold Fr.agg at KF;obtain⟨b,hb⟩:∃b,decide (f.an<0)=b:=⟨_,rfl⟩;rw[hb]at KF;have HD:=xh hb;clear hb;go_wp2_with fail;refine KF.o.mono ?_;rintro e w1 ⟨rfl,aL⟩;have GK:=xh (ao HB.o aL);clear aL
   cases b with
   |true=>
    have he:=xh (rh (b:=λf=>decide (f.an<0)) HF.o HD.o HA.o);go_wp2_with fail;go_ret;exact⟨by rw[he.o];rfl,GK.o⟩
   |false=>
    go_wp2_with fail;go_roundw
    case rel=>
     refine⟨i+1,by omega,by go_num,xh (λj a hj ha=>?_),GK⟩
     rcases lW.1 hj with hj|rfl
     .exact HA.o j a hj ha
     .have:=HF.o.symm.trans ha;injection this with this
      subst this;exact HD.o
    case measure=>simp[intOf];omega
  .have he:=xh (rZ (b:=λf=>decide (f.an<0)) (l:=l) (λj a ha=>HA.o j a (by have:=(aR.1 ha).1;have:=HL.o;omega) ha));go_wp2_with fail;go_ret;exact⟨by rw[he.o];rfl,HB.o⟩
theorem GM{y:Y}{n q:Nat}{s:PS}(h:fG w y n s)(hq:w.cell? ⟨q,0,none⟩=some (pp y.pb))(hqp:q≠y.pb):
  Calls Tryz.prog 245 #[.pointer (some ⟨q,0,none⟩)] w λe w'=>e=.returned (.pointer (some ⟨y.fg,s.hand*5,none⟩))/\fG w' y n {s with hand:=(s.hand+1) % s.l.length}/\ag y.fp w w':=by
 have p1:=h.p1;have p2:=h.p2;have l1:=h.l1;have l2:=h.l2;have lh:=h.lh;obtain⟨m,hm⟩:∃m,(s.hand+1) % s.l.length=m:=⟨_,rfl⟩;have qI:m<s.l.length:=by rw[<-hm];exact lX _ (by omega)
 have hmI:((s.hand:Int)+1).tmod (s.l.length:Int)=(m:Int):=by rw[<-hm,show((s.hand:Int)+1)=((s.hand+1:Nat):Int)from by omega];exact(Int.ofNat_tmod _ _).symm
 have hlI:(s.hand:Int)<(s.l.length:Int):=by omega
 have m1:IntKind.i64.wrap ((s.hand:Int)+1)=(s.hand:Int)+1:=IntWalk.i64_in _ (by omega);have m2:IntKind.i64.wrap (m:Int)=(m:Int):=IntWalk.i64_in _ (by omega);have tZ:¬s.l=[]:=by intro e;rw[e]at l1;simp at l1
 rw[hm];have HB:=xh (λw' (hb:Below w.heap.size w w')=>h.below hb);have QB:=xh (λw' (hb:Below w.heap.size w w')=>(hb.cell (db hq)).trans hq);clear h hm;unfold pp at *;go_enter Tryz.func245,Tryz.ntmps245;go_wp2_with fail;go_quiet (fail);have O1:=xh (cB (Below.refl w.heap.size w) nq);generalize w.drewN nq=w1 at *;have o0:=HB.o _ O1.o;have od:=o0.drew;have z:=(od.setH m qI).1;have A:=xh (od.setH m qI).2.1
 have OA:=xh ((ag.aj O1.o.drew).trans (od.setH m qI).2.2);have p2d:=od.p2;have HS:=xh (show w1.drew.cell? ⟨q,0,none⟩=some (.pointer (some ⟨y.pb,0,none⟩))/\w1.drew.cell? ⟨y.pb,1,none⟩=some (.slice (some ⟨y.fg,0,none⟩) s.l.length y.cp)from⟨QB.o _ O1.o.drew,od.p1⟩)
 have AK:=xh (show(w1.drew.setCell ⟨y.pb,2,none⟩ (.int .i64 (m:Nat))).cell? ⟨q,0,none⟩=some (.pointer (some ⟨y.pb,0,none⟩))/\(w1.drew.setCell ⟨y.pb,2,none⟩ (.int .i64 (m:Nat))).cell? ⟨y.pb,1,none⟩=some (.slice (some ⟨y.fg,0,none⟩) s.l.length y.cp)from⟨by
  have c:=QB.o _ O1.o.drew;have o:=(ag.refl [y.pb] w1.drew).setCell (p:=⟨y.pb,2,none⟩) (by simp) (.int .i64 (m:Nat));exact(o.cell (db c) (by simpa using hqp)).trans c,A.o.p1⟩)
 clear o0 od p1 p2 hq;go_wp2_with fail;refine wp_region_held_drew (S:=λW'=>W'.cell? ⟨q,0,none⟩=some (.pointer (some ⟨y.pb,0,none⟩))/\W'.cell? ⟨y.pb,1,none⟩=some (.slice (some ⟨y.fg,0,none⟩) s.l.length y.cp)) (by kernel_rfl) (HS.o) (λaw=>?_);refine dq [(0,12),(1,13),(2,14),(3,15),(6,18),(7,19),(8,20),(9,21),(10,22)] ?_
 iterate 9 refine za ?_
 refine zd 4 16 λK hK=>?_;go_simp;refine zh hK (HS.o) (λaw=>?_);refine dq [(5,17),(11,23),(12,24),(13,25)] ?_
 iterate 4 refine za ?_
 refine zf 14 λK hK=>?_;go_simp;refine zh hK (AK.o) (λaw=>?_);refine wpAnyH_done (by kernel_rfl) ?_ _;go_wp2_with fail;go_ret;exact⟨by first|rfl|simp,A.o,OA.o⟩
def ia(l:List Fr)(k:Nat):Fr:=(l[k]?).getD Fr.nil
def PS.turn(s:PS):PS:={s with hand:=(s.hand+1) % s.l.length}
def PS.gC:Nat->PS->PS×Int
 |0,s=>(s,-1)
 |m+1,s=>
  if 0<(ia s.l s.hand).held then PS.gC m s.turn
  else if(ia s.l s.hand).used=true then PS.gC m {s.turn with l:=s.l.set s.hand {ia s.l s.hand with used:=false}}
  else(s.turn,(s.hand:Int))
def PS.ay(s:PS):PS×Int:=
 if 0<=xW (λf=>decide (f.an<0)) s.l then(s,xW (λf=>decide (f.an<0)) s.l)else s.gC (2*s.l.length+1)
theorem jS{l:List Fr}{k:Nat}(h:k<l.length):l[k]?=some (ia l k):=by unfold ia;rw[aN h];rfl
theorem r7{w:World}{y:Y}{n:Nat}{s:PS}(h:fG w y n s):
  Calls Tryz.prog 229 #[pp y.pb] w λe w'=>e=.returned (.int .i64 s.ay.2)/\fG w' y n s.ay.1/\ag y.fp w w':=by
 have Fu:=h.lt y.pb (by simp[Y.fp]);have O0:=xh (ae (Below.refl w.heap.size w) (.cells #[.pointer (some ⟨y.pb,0,none⟩)] 34));have B0:=xh (aD.new w 34 #[.pointer (some ⟨y.pb,0,none⟩)]);have H0:=xh (h.below O0.o);have KI:=xh (AJ y.fg s.l.length y.cp s.l H0.o.wF rfl (by have:=h.l2;omega));have NP:=xh (show w.heap.size≠y.pb from by omega);have NF:=xh (show w.heap.size∉y.fp from λhm=>by have:=h.lt _ hm;omega)
 have q0:=B0.o.ab (i:=0) rfl;have p1:=H0.o.p1;have l2:=h.l2;obtain⟨R,hR⟩:∃R,s.ay=R:=⟨_,rfl⟩;rw[hR];unfold PS.ay at hR;clear h Fu;unfold pp at *
 rcases wG (λf=>decide (f.an<0)) s.l with e|⟨k,f,e,hf,_⟩
 .rw[e,if_neg (by omega)]at hR;rw[e]at KI;obtain⟨N,hN⟩:∃N,2*s.l.length+1=N:=⟨_,rfl⟩;have m1:IntKind.i64.wrap (2*(s.l.length:Int))=2*(s.l.length:Int):=IntWalk.i64_in _ (by omega);have m2:IntKind.i64.wrap (2*(s.l.length:Int)+1)=(N:Int):=by rw[IntWalk.i64_in _ (by omega)];omega
  have hN65:N<=65:=by omega
  rw[hN]at hR;have HN:=xh hN;have HR:=xh hR;clear e hR hN;go_enter Tryz.func229,Tryz.ntmps229;go_wp2_with fail
  go_step3
  go_wp2_with fail;refine KI.o.mono ?_;rintro e w1 ⟨rfl,aL⟩;have O1:=xh (ao O0.o aL);have H1:=xh (H0.o.below aL);have B1:=xh (B0.o.below aL B0.o.lt);have p1':=H1.o.p1;have q1:=B1.o.ab (i:=0) rfl;clear aL p1 q0;go_wp2_with fail
  go_step3
  go_wp2_with fail;clear p1' q1
  go_loopw [5,24] (λov iv wr=> ∃(i:Nat) (s':PS),i<=N/\ov=.int .i64 (-1)/\iv=.int .i64 i/\Hid (fG wr y n s')/\Hid (s'.gC (N-i)=R)/\Hid (ag y.fp w wr)/\Hid (aD wr w.heap.size 34 #[.pointer (some ⟨y.pb,0,none⟩)])) (λ_ iv _=>N-(intOf iv).toNat)
  case atStart=>exact⟨0,s,bm _,rfl,rfl,H1,xh (by rw[Nat.sub_zero];exact HR.o),xh (.aj O1.o),B1⟩
  case round=>
   obtain⟨i,s',hi,rfl,rfl,HA,HS,HO,HQ⟩:=hrel
   by_cases h:i<N
   .have KN:=xh (GM HA.o (HQ.o.ab (i:=0) rfl) NP.o);have q2:=HQ.o.ab (i:=0) rfl;have p2:=HA.o.p2;have hI:(i:Int)<(N:Int):=by omega
    have hf:=jS HA.o.lh;have hS:=HS.o;rw[show N-i=(N-(i+1))+1 from by omega]at hS;unfold PS.gC at hS;generalize CI:ia s'.l s'.hand=f at *;have HF:=xh hf;clear hf CI;go_wp2_with fail;refine KN.o.mono ?_;rintro e w2 ⟨rfl,A2,o2⟩;have A2:=xh A2;have o2r:=o2;have o2:=xh (HO.o.trans o2r);obtain⟨_,_,x2,_,x4⟩:=A2.o.wF s'.hand f HF.o;have HF5:=xh (A2.o.dX s'.hand 4 (by omega) {f with used:=false} (.bool false) HF.o rfl);have z5:=HF5.o.1
    have HQ2:=xh (HQ.o.only o2r NF.o);clear o2r q2 p2
    by_cases h1:0<f.held
    .rw[if_pos h1]at hS;have HS:=xh hS;clear hS;generalize f.held=fh at *;go_wp2_with fail;go_roundw
     case rel=>exact⟨i+1,s'.turn,by omega,rfl,by go_num,A2,HS,o2,HQ2⟩
     case measure=>simp[intOf];omega
    .rw[if_neg h1]at hS
     by_cases h2:f.used=true
     .rw[if_pos h2]at hS;rw[h2]at x4;have HS:=xh hS;have A5:=xh HF5.o.2.1;have O5:=xh (o2.o.trans HF5.o.2.2);have HQ5:=xh (HQ2.o.only HF5.o.2.2 NF.o);clear hS h2 HF5;generalize f.held=fh at *;go_wp2_with fail;go_roundw
      case rel=>exact⟨i+1,_,by omega,rfl,by go_num,A5,HS,O5,HQ5⟩
      case measure=>simp[intOf];omega
     .have h3:f.used=false:=by simpa using h2
      rw[if_neg h2]at hS;rw[h3]at x4;subst hS;clear h2 HF5 HS HR;generalize f.held=fh at *;go_wp2_with fail;rw[Exit.noGoto_ret];go_ret;exact⟨by first|rfl|simp,A2.o,o2.o⟩
   .have hiN:i=N:=by omega
    subst hiN;have hS:=HS.o;rw[eB]at hS;unfold PS.gC at hS;subst hS;go_wp2_with fail;rw[Exit.noGoto_ret];go_ret;exact⟨by first|rfl|simp,HA.o,HO.o⟩
 .rw[e,if_pos (by omega)]at hR;rw[e]at KI;subst hR;have hk0:(0:Int)<=(k:Int):=by omega
  clear e hf;go_enter Tryz.func229,Tryz.ntmps229;go_wp2_with fail
  go_step3
  go_wp2_with fail;refine KI.o.mono ?_;rintro e w1 ⟨rfl,aL⟩;have O1:=xh (ao O0.o aL);have H1:=xh (H0.o.below aL);clear aL;go_wp2_with fail;rw[Exit.noGoto_ret];go_ret;exact⟨by first|rfl|simp,H1.o,.aj O1.o⟩
theorem AL{w:World}{y:Y}{n:Nat}{s:PS}(h:fG w y n s)(k:Nat){f:Fr}(hf:s.l[k]?=some f)(hd:f.bT=false):
  Calls Tryz.prog 99 #[pp y.pb,.int .i64 (k:Nat)] w λe w'=>e=.returned (.int .i64 0)/\Below w.heap.size w w':=by
 have hk:k<s.l.length:=(aR.1 hf).1;have p1:=h.p1;have l2:=h.l2;have FA:(k:Int)<(s.l.length:Int):=by omega
 obtain⟨_,_,_,c3,_⟩:=h.wF k f hf;rw[hd]at c3;have OB:=xh (Below.refl w.heap.size w);clear h hf hd;unfold pp at *;go_enter Tryz.func99,Tryz.ntmps99;go_wp2_with fail;go_ret;exact⟨by first|rfl|simp,OB.o⟩
variable{w:World}{y:Y}{n:Nat}{s:PS}
theorem GN(h:fG w y n s)(p:Int)(k:Nat){f:Fr}(hk:findF s.l p=(k:Nat))(hf:s.l[k]?=some f)(hb: -1000<=f.held/\f.held<=4000000000000):
  Calls Tryz.prog 213 #[pp y.pb,.int .i64 p] w λe w'=>e=.returned (.tuple #[.string f.eC,.int .i64 0])/\fG w' y n {s with l:=s.l.set k {f with held:=f.held+1,used:=true}}/\ag y.fp w w':=by
 have KF:=xh (fC h p);rw[hk]at KF;have kQ:k<s.l.length:=(aR.1 hf).1;have FA:(k:Int)<(s.l.length:Int):=by omega
 have hk0:(0:Int)<=(k:Int):=by omega
 have HB:=xh (λw' (hb:Below w.heap.size w w')=>h.below hb);have m1:IntKind.i64.wrap (f.held+1)=f.held+1:=IntWalk.i64_in _ (by omega);have HF:=xh hf;have HL:=xh h.l2;clear h hk hf hb;unfold pp at *;go_enter Tryz.func213,Tryz.ntmps213;go_wp2_with fail;refine KF.o.mono ?_;rintro e w1 ⟨rfl,aL⟩;have O1:=xh aL;have A1:=HB.o w1 aL;have p1:=A1.p1;have A2:=A1.dX k 2 (by omega) {f with held:=f.held+1} (.int .i64 (f.held+1)) HF.o rfl;obtain⟨z1,A3,o3⟩:=A2
 have DU:(s.l.set k {f with held:=f.held+1})[k]?=some {f with held:=f.held+1}:=by rw[cD kQ]
 obtain⟨z2,A4,o4⟩:=A3.dX k 4 (by omega) {f with held:=f.held+1,used:=true} (.bool true) DU rfl;have hf4:((s.l.set k {f with held:=f.held+1}).set k {f with held:=f.held+1,used:=true})[k]?=some {f with held:=f.held+1,used:=true}:=by rw[cD (by simpa using kQ)]
 obtain⟨_,x1,_,_,_⟩:=A4.wF k _ hf4;obtain⟨_,_,y2,_,_⟩:=A1.wF k f HF.o;obtain⟨_,_,_,_,y4⟩:=A3.wF k _ DU;simp only[gI]at A4;have AZ:=xh A4;have OZ:=xh ((ag.aj (S:=y.fp) O1.o).trans (o3.trans o4));clear aL A1 A3 A4 o3 o4 DU hf4;go_wp2_with fail;go_ret2;exact⟨by first|rfl|simp,AZ.o,OZ.o⟩
theorem GO(h:fG w y n s)(p:Int)(hk:findF s.l p= -1)(hr:(s.c.aA n p).2≠0):
  Calls Tryz.prog 213 #[pp y.pb,.int .i64 p] w λe w'=>e=.returned (.tuple #[.string ⟨#[]⟩,.int .i64 (s.c.aA n p).2])/\Below w.heap.size w w':=by
 have KF:=xh (fC h p);rw[hk]at KF;have HB:=xh (λw' (hb:Below w.heap.size w w')=>h.below hb);have KR:=xh (λw' (hb:Below w.heap.size w w')=>kh (h.below hb).hs p);have hq:((s.c.aA n p).2==0)=false:=by rw[beq_eq_false_iff_ne];exact hr
 have lp:((s.c.aA n p).2 != 0)=true:=by rw[bne_iff_ne];exact hr
 generalize s.c.aA n p=R at *;clear h hk;unfold pp sp at *;go_enter Tryz.func213,Tryz.ntmps213;go_wp2_with fail;refine KF.o.mono ?_;rintro e w1 ⟨rfl,aL⟩;have O1:=xh aL;have p0:=(HB.o w1 aL).p0;clear aL;go_wp2_with fail;refine(KR.o w1 O1.o).mono ?_;rintro e w2 ⟨rfl,bK⟩;have O2:=xh (ao O1.o bK);clear bK;go_wp2_with fail;go_ret2;exact⟨by first|rfl|simp,O2.o⟩
theorem DW(h:fG w y n s)(p:Int)(hk:findF s.l p= -1)(hr:(s.c.aA n p).2=0)(hv:s.ay.2<0):
  Calls Tryz.prog 213 #[pp y.pb,.int .i64 p] w λe w'=>e=.returned (.tuple #[.string ⟨#[]⟩,.int .i64 12])/\fG w' y n s.ay.1/\ag y.fp w w':=by
 have KF:=xh (fC h p);rw[hk]at KF;have HB:=xh (λw' (hb:Below w.heap.size w w')=>h.below hb);have KR:=xh (λw' (hb:Below w.heap.size w w')=>kh (h.below hb).hs p);have KV:=xh (λw' (hb:Below w.heap.size w w')=>r7 (h.below hb));rw[hr]at KR;generalize (s.c.aA n p).1=R at *;generalize s.ay=V at *;clear h hk;unfold pp sp at *;go_enter Tryz.func213,Tryz.ntmps213;go_wp2_with fail;refine KF.o.mono ?_;rintro e w1 ⟨rfl,aL⟩;have O1:=xh aL
 have p0:=(HB.o w1 aL).p0;clear aL;go_wp2_with fail;refine(KR.o w1 O1.o).mono ?_;rintro e w2 ⟨rfl,bK⟩;have O2:=xh (ao O1.o bK);clear bK;go_wp2_with fail;refine(KV.o w2 O2.o).mono ?_;rintro e w3 ⟨rfl,A3,o3⟩;have A3:=xh A3;have o3:=xh ((ag.aj (S:=y.fp) O2.o).trans o3);go_wp2_with fail;go_ret2;exact⟨by first|rfl|simp,A3.o,o3.o⟩
variable{w:World}{y:Y}{n:Nat}{s:PS}{f:Fr}
theorem fG.same{w':World}{c':C}(h:fG w y n s)(A:At w' y.x n c')(o:ag y.x.fp w w'):fG w' y n {s with c:=c'}/\ag y.fp w w':=
 ⟨⟨h.hp.only o h.n1,h.hf.only o (λg hg=>by simp[ah]at hg;subst hg;exact h.n2),A,h.n1,h.n2,h.l1,h.l2,h.lh⟩,o.mono (λg hg _=>by simp[Y.fp,hg])⟩
theorem AM(h:fG w y n s)(p:Int)(k:Nat)(hk:findF s.l p=(k:Nat))(hf:s.l[k]?=some f)(hh:0<f.held):
  Calls Tryz.prog 132 #[pp y.pb,.int .i64 p] w λe w'=>e=.returned (.int .i64 16)/\Below w.heap.size w w':=by
 have KF:=xh (fC h p);rw[hk]at KF;have HB:=xh (λw' (hb:Below w.heap.size w w')=>h.below hb);have kQ:k<s.l.length:=(aR.1 hf).1;have FA:(k:Int)<(s.l.length:Int):=by omega
 have hk0:(0:Int)<=(k:Int):=by omega
 have HF:=xh hf;have l2:=h.l2;clear h hk hf;unfold pp at *;go_enter Tryz.func132,Tryz.ntmps132;go_wp2_with fail;refine KF.o.mono ?_;rintro e w1 ⟨rfl,aL⟩;have O1:=xh aL;have A1:=xh (HB.o w1 aL);have p0:=A1.o.p0;have p1:=A1.o.p1;obtain⟨_,_,c2,_,_⟩:=A1.o.wF k f HF.o;clear aL;go_wp2_with fail;go_ret;exact⟨by first|rfl|simp,O1.o⟩
theorem DX(h:fG w y n s)(p:Int)(hk:findF s.l p= -1):
  Calls Tryz.prog 132 #[pp y.pb,.int .i64 p] w λe w'=>e=.returned (.int .i64 (s.c.aI p).2)/\fG w' y n {s with c:=(s.c.aI p).1}/\ag y.fp w w':=by
 have KF:=xh (fC h p);rw[hk]at KF;have HB:=xh (λw' (hb:Below w.heap.size w w')=>h.below hb);have KD:=xh (λw' (hb:Below w.heap.size w w')=>xV (h.below hb).hs p);have HP:=xh (λw1 (hb:Below w.heap.size w w1) w2 (A:At w2 y.x n (s.c.aI p).1) (o:ag y.x.fp w1 w2)=>(h.below hb).same A o);generalize s.c.aI p=R at *;obtain⟨R1,R2⟩:=R;dsimp only at *;clear h hk;unfold sp at *;unfold pp at *;go_enter Tryz.func132,Tryz.ntmps132;go_wp2_with fail
 refine KF.o.mono ?_;rintro e w1 ⟨rfl,aL⟩;have O1:=xh aL;have A1:=xh (HB.o w1 aL);have p0:=A1.o.p0;have p1:=A1.o.p1;clear aL;go_wp2_with fail;refine(KD.o w1 O1.o).mono ?_;rintro e w2 ⟨rfl,A2,o2⟩;have A3:=xh (HP.o w1 O1.o w2 A2 o2);clear A2 o2
 by_cases h0:R2=0
 .subst h0;go_wp2_with fail;go_ret;exact⟨by first|rfl|(simp;done)|(simp[h0];done)|simp_all,A3.o.1,(ag.aj (S:=y.fp) O1.o).trans A3.o.2⟩
 .have hq:(R2 != 0)=true:=by rw[bne_iff_ne];exact h0
  have lp:(R2==0)=false:=by rw[beq_eq_false_iff_ne];exact h0
  go_wp2_with fail;go_ret;exact⟨by first|rfl|(simp;done)|(simp[h0];done)|simp_all,A3.o.1,(ag.aj (S:=y.fp) O1.o).trans A3.o.2⟩
theorem fG.setNil(h:fG w y n s)(k:Nat)(hf:s.l[k]?=some f):
  w.frozen? ⟨y.fg,k*5,none⟩=false/\w.frozen? ⟨y.fg,k*5+1,none⟩=false/\w.frozen? ⟨y.fg,k*5+2,none⟩=false/\w.frozen? ⟨y.fg,k*5+3,none⟩=false/\w.frozen? ⟨y.fg,k*5+4,none⟩=false/\
  fG (((((w.setCell ⟨y.fg,k*5,none⟩ (.int .i64 (-1))).setCell ⟨y.fg,k*5+1,none⟩ (.string ⟨#[]⟩)).setCell ⟨y.fg,k*5+2,none⟩ (.int .i64 0)).setCell ⟨y.fg,k*5+3,none⟩ (.bool false)).setCell ⟨y.fg,k*5+4,none⟩ (.bool false)) y n {s with l:=s.l.set k Fr.nil}/\
  ag y.fp w (((((w.setCell ⟨y.fg,k*5,none⟩ (.int .i64 (-1))).setCell ⟨y.fg,k*5+1,none⟩ (.string ⟨#[]⟩)).setCell ⟨y.fg,k*5+2,none⟩ (.int .i64 0)).setCell ⟨y.fg,k*5+3,none⟩ (.bool false)).setCell ⟨y.fg,k*5+4,none⟩ (.bool false)):=by
 have kQ:k<s.l.length:=(aR.1 hf).1;obtain⟨z0,B0,q0⟩:=h.dX k 0 (by omega) {f with an:= -1} (.int .i64 (-1)) hf rfl;rw[iE]at z0 B0 q0;have g0:(s.l.set k {f with an:= -1})[k]?=some {f with an:= -1}:=by rw[cD kQ]
 obtain⟨_,B1,q1⟩:=B0.dX k 1 (by omega) {f with an:= -1,eC:=⟨#[]⟩} (.string ⟨#[]⟩) g0 rfl;simp only[gI]at B1;have g1:(s.l.set k {f with an:= -1,eC:=⟨#[]⟩})[k]?=some {f with an:= -1,eC:=⟨#[]⟩}:=by rw[cD kQ]
 obtain⟨_,B2,q2⟩:=B1.dX k 2 (by omega) {f with an:= -1,eC:=⟨#[]⟩,held:=0} (.int .i64 0) g1 rfl;simp only[gI]at B2;have g2:(s.l.set k {f with an:= -1,eC:=⟨#[]⟩,held:=0})[k]?=some {f with an:= -1,eC:=⟨#[]⟩,held:=0}:=by rw[cD kQ]
 obtain⟨_,B3,q3⟩:=B2.dX k 3 (by omega) {f with an:= -1,eC:=⟨#[]⟩,held:=0,bT:=false} (.bool false) g2 rfl;simp only[gI]at B3;have g3:(s.l.set k {f with an:= -1,eC:=⟨#[]⟩,held:=0,bT:=false})[k]?=some {f with an:= -1,eC:=⟨#[]⟩,held:=0,bT:=false}:=by rw[cD kQ]
 obtain⟨_,B4,q4⟩:=B3.dX k 4 (by omega) Fr.nil (.bool false) g3 rfl;simp only[gI]at B4;obtain⟨rest,B,hr,_,_⟩:=h.hf.oO;have hl:=jB s.l;have fz:∀j,j<5->w.frozen? ⟨y.fg,k*5+j,none⟩=false:=λj hj=>B.frozen _ (by simp;omega);exact⟨fz 0 (by omega),fz 1 (by omega),fz 2 (by omega),fz 3 (by omega),fz 4 (by omega),B4,(((q0.trans q1).trans q2).trans q3).trans q4⟩
theorem GQ(h:fG w y n s)(p:Int)(k:Nat)(hk:findF s.l p=(k:Nat))(hf:s.l[k]?=some f)(hh:f.held=0):
  Calls Tryz.prog 132 #[pp y.pb,.int .i64 p] w λe w'=>e=.returned (.int .i64 (s.c.aI p).2)/\fG w' y n (if(s.c.aI p).2=0 then {s with c:=(s.c.aI p).1,l:=s.l.set k Fr.nil}else {s with c:=(s.c.aI p).1})/\ag y.fp w w':=by
 have KF:=xh (fC h p);rw[hk]at KF;have KE:=xh l8;unfold Fr.nil Fr.agg at KE;have HB:=xh (λw' (hb:Below w.heap.size w w')=>h.below hb);have kQ:k<s.l.length:=(aR.1 hf).1;have FA:(k:Int)<(s.l.length:Int):=by omega
 have hk0:(0:Int)<=(k:Int):=by omega
 have HF:=xh hf;have KD:=xh (λw' (hb:Below w.heap.size w w')=>xV (h.below hb).hs p);have HP:=xh (λw1 (hb:Below w.heap.size w w1) w2 (A:At w2 y.x n (s.c.aI p).1) (o:ag y.x.fp w1 w2)=>(h.below hb).same A o);have l2:=h.l2;generalize s.c.aI p=R at *;obtain⟨R1,R2⟩:=R;dsimp only at *;clear h hk hf;unfold sp at *
 by_cases h0:R2=0
 .subst h0;rw[if_pos rfl];unfold pp at *;go_enter Tryz.func132,Tryz.ntmps132;go_wp2_with fail;refine KF.o.mono ?_;rintro e w1 ⟨rfl,aL⟩;have O1:=xh aL;have A1:=xh (HB.o w1 aL);have p0:=A1.o.p0;have p1:=A1.o.p1;obtain⟨_,_,c2,_,_⟩:=A1.o.wF k f HF.o;rw[hh]at c2;clear aL hh;go_wp2_with fail;refine(KD.o w1 O1.o).mono ?_;rintro e w2 ⟨rfl,A2,o2⟩;have A3:=xh (HP.o w1 O1.o w2 A2 o2);clear A2 o2 p0 p1 c2;have AD:=xh (A3.o.1.drew)
  have OD:=xh ((((ag.refl y.fp w).trans (ag.aj O1.o)).trans A3.o.2).drew);have P1D:=xh AD.o.p1;clear A3;go_wp2_with fail;refine wp_region_held_drew (S:=λW'=>W'.cell? ⟨y.pb,1,none⟩=some (.slice (some ⟨y.fg,0,none⟩) s.l.length y.cp)) (by kernel_rfl) (P1D.o) (λaw=>?_);refine dq [(0,39),(1,40),(2,41),(3,42),(4,43)] ?_
  iterate 5 refine za ?_
  refine zd 5 44 λK hK=>?_;go_simp
  go_at_call 86
  refine(KE.o _).mono ?_;rintro e w6 ⟨rfl,zE⟩;have A6:=xh (AD.o.below zE);have O6:=xh (OD.o.trans (ag.aj (S:=y.fp) zE));have p1y:=A6.o.p1;clear zE;refine zh hK (p1y) (λaw=>?_);refine dq [(6,45)] ?_
  iterate 1 refine za ?_
  refine zf 7 λK hK=>?_;go_simp;have p1x:=A6.o.p1;have l2x:=A6.o.l2;obtain⟨c0,c1,c2,c3,c4⟩:=A6.o.wF k f HF.o;obtain⟨z0,z1,z2,z3,z4,B4,q4⟩:=A6.o.setNil k HF.o;have AZ:=xh B4;have OZ:=xh (O6.o.trans q4);clear B4 q4;go_simp;refine hK.o _ _ (by have:=AZ.o.p1;simpa using this) (λaw=>?_)
  try simp only[Act.put,pa,pb,pc]
  refine wpAnyH_done (by kernel_rfl) ?_ _;go_wp2_with fail;go_ret;exact⟨by first|rfl|simp,AZ.o,OZ.o⟩
 .have hq:(R2 != 0)=true:=by rw[bne_iff_ne];exact h0
  have lp:(R2==0)=false:=by rw[beq_eq_false_iff_ne];exact h0
  rw[if_neg h0];unfold pp at *;go_enter Tryz.func132,Tryz.ntmps132;go_wp2_with fail;refine KF.o.mono ?_;rintro e w1 ⟨rfl,aL⟩;have O1:=xh aL;have A1:=xh (HB.o w1 aL);have p0:=A1.o.p0;have p1:=A1.o.p1;obtain⟨_,_,c2,_,_⟩:=A1.o.wF k f HF.o;rw[hh]at c2;clear aL hh;go_wp2_with fail;refine(KD.o w1 O1.o).mono ?_;rintro e w2 ⟨rfl,A2,o2⟩;have A3:=xh (HP.o w1 O1.o w2 A2 o2);clear A2 o2;go_wp2_with fail;go_ret
  exact⟨by first|rfl|simp,A3.o.1,(ag.aj (S:=y.fp) O1.o).trans A3.o.2⟩
end Go.Proofs.YtmonobkginiajaaGreat.Sh
