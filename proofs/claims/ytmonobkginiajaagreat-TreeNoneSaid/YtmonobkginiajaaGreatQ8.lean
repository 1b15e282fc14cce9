/- packed. -/
import Derived.Test.YtmonobkginiajaaGreatQ7
import Derived.WalkMore
set_option linter.all false
set_option maxRecDepth 100000
set_option maxHeartbeats 8000000
namespace Go.Proofs.YtmonobkginiajaaGreat.Sh
open Go.RowKit Pk Dk Pg
attribute [local go_sem ↓] Go.wp_at_zero Go.wp_at_succ
structure Fr where
 al:Int
 et:ByteArray
 held:Int
 bG:Bool
 used:Bool
def Fr.cs (f:Fr):List Value:=[.int .i64 f.al,.string f.et,.int .i64 f.held,.bool f.bG,.bool f.used]
def Fr.agg (f:Fr):Value:= .agg #[.int .i64 f.al,.string f.et,.int .i64 f.held,.bool f.bG,.bool f.used]
def Fr.nil:Fr:=⟨-1,⟨#[]⟩,0,false,false⟩
def yk (l:List Fr):List Value:=l.flatMap Fr.cs
theorem jJ (l:List Fr):(yk l).length=l.length*5:=by
 induction l with
 | nil=>rfl
 | cons f l ih=>simp only [yk,List.flatMap_cons,List.length_append] at ih ⊢; rw [ih]; simp [Fr.cs]; omega
theorem frc_get (l:List Fr) (k i:Nat) (hi:i<5) (f:Fr) (hf:l[k]?=some f):(yk l)[k*5+i]?=f.cs[i]?:=by
 induction l generalizing k with
 | nil=>simp at hf
 | cons a l ih=>
  have e5:a.cs.length=5:=rfl;simp only [yk,List.flatMap_cons] at ih ⊢
  cases k with
  | zero=>
   simp at hf;subst hf;rw [Nat.zero_mul,Nat.zero_add,List.getElem?_append_left (by omega)]
  | succ k=>
   simp at hf;rw [List.getElem?_append_right (by omega),e5,show (k+1)*5+i-5=k*5+i from by omega];exact ih k hf
def rp (w:World) (g:Nat) (l:List Fr):Prop:= ∀k f,l[k]?=some f→w.cell? ⟨g,k*5,none⟩=some (.int .i64 f.al)∧w.cell? ⟨g,k*5+1,none⟩=some (.string f.et)∧w.cell? ⟨g,k*5+2,none⟩=some (.int .i64 f.held)∧w.cell? ⟨g,k*5+3,none⟩=some (.bool f.bG)∧w.cell? ⟨g,k*5+4,none⟩=some (.bool f.used)
theorem rp.of {w:World} {g:Nat} {l:List Fr} {rest:List Value} {t:TypeId} (B:ax w g t (yk l++rest).toArray):rp w g l:=by
 intro k f hf;have hk:k<l.length:=(List.getElem?_eq_some_iff.1 hf).1;have hl:=jJ l;have c: ∀i v,i<5→f.cs[i]?=some v→w.cell? ⟨g,k*5+i,none⟩=some v:=fun i v hi hv=>
  B.ab (by rw [List.getElem?_toArray,List.getElem?_append_left (by omega),frc_get l k i hi f hf,hv])
 exact ⟨c 0 _ (by omega) rfl,c 1 _ (by omega) rfl,c 2 _ (by omega) rfl,c 3 _ (by omega) rfl,c 4 _ (by omega) rfl⟩
theorem rp.below {w w':World} {g:Nat} {l:List Fr} (h:rp w g l) (hb:Below w.heap.size w w'):rp w' g l:=by
 intro k f hf;obtain ⟨c0,c1,c2,c3,c4⟩:=h k f hf;exact ⟨(hb.cell (da c0)).trans c0,(hb.cell (da c1)).trans c1,(hb.cell (da c2)).trans c2,(hb.cell (da c3)).trans c3,(hb.cell (da c4)).trans c4⟩
def zI (b:Fr→Bool) (l:List Fr):Int:=if l.findIdx b<l.length then (l.findIdx b:Int) else -1
def findF (l:List Fr) (p:Int):Int:=if p<0 then -1 else zI (fun f=>decide (f.al=p)) l
theorem sq {b:Fr→Bool} {l:List Fr} {k:Nat} {f:Fr} (hf:l[k]?=some f) (hb:b f=true) (ha: ∀(j:Nat) (a:Fr),j<k→l[j]?=some a→b a=false):zI b l=k:=by
 have hk:k<l.length:=(List.getElem?_eq_some_iff.1 hf).1;have hg:l[k]=f:=(List.getElem?_eq_some_iff.1 hf).2;have e:l.findIdx b=k:=by
  rw [List.findIdx_eq hk];exact ⟨by rw [hg]; exact hb,fun j hj=>by have:=ha j l[j] hj (List.getElem?_eq_getElem (by omega)); simp [this]⟩
 unfold zI;rw [e,if_pos hk]
theorem tr {b:Fr→Bool} {l:List Fr} (ha: ∀(j:Nat) (a:Fr),l[j]?=some a→b a=false):zI b l= -1:=by
 have e:l.findIdx b=l.length:=by
  rw [List.findIdx_eq_length];intro x hx;obtain ⟨i,hi,rfl⟩:=List.mem_iff_getElem.1 hx;exact ha i _ (List.getElem?_eq_getElem hi)
 unfold zI;rw [e,if_neg (Nat.lt_irrefl _)]
theorem Gr {fn:Func} {p:Tmp} {w:World} {g:Nat} {f:Fr} {tmps:Array Value} (h:fn.results= #[.cell p 167]) (hp:tmps.getD p undef= .pointer (some ⟨g,0,none⟩)) (B:ax w g 167 f.cs.toArray):
  (results fn tmps).run Tryz.prog w= .ok f.agg w:=by
 have c0:=B.ab (i:=0) rfl;have c1:=B.ab (i:=1) rfl;have c2:=B.ab (i:=2) rfl;have c3:=B.ab (i:=3) rfl;have c4:=B.ab (i:=4) rfl;rw [cJ h,hp];clear h hp B;unfold Fr.agg;go_simp;exact ⟨rfl,rfl,rfl,rfl,rfl⟩
theorem mI (w:World):Calls Tryz.prog 86 #[] w fun e w'=>e= .returned Fr.nil.agg∧Below w.heap.size w w':=by
 unfold Fr.nil Fr.agg;go_enter Tryz.func86,Tryz.ntmps86;go_wp2_with fail;exact bodyPost_ret (Gr (f:=Fr.nil) rfl rfl (ax.new w 167 Fr.nil.cs.toArray)) rfl ⟨rfl,ae (Below.refl w.heap.size w) _⟩
theorem mJ (f:Fr) (q:Nat) (p:Int) (w:World) (hq:w.cell? ⟨q,0,none⟩=some (.int .i64 p)) (b:Bool) (hb:b=decide (f.al=p)):
  Calls Tryz.prog 221 #[f.agg,.pointer (some ⟨q,0,none⟩)] w fun e w'=>e= .returned (.bool b)∧Below w.heap.size w w':=by
 have O0:=xh ((Below.refl w.heap.size w).alloc (Nat.le_refl _) (.cells #[.int .i64 f.al,.string f.et,.int .i64 f.held,.bool f.bG,.bool f.used] 167));have B0:=ax.new w 167 #[.int .i64 f.al,.string f.et,.int .i64 f.held,.bool f.bG,.bool f.used];have c0:=B0.ab (i:=0) rfl;have HB:=xh hb;have hq1:=(O0.out.cell (da hq)).trans hq;clear hb hq B0;unfold Fr.agg;go_enter Tryz.func221,Tryz.ntmps221;go_wp2_with fail;go_ret;exact ⟨by rw [HB.out]; rfl,O0.out⟩
theorem CE {w:World} (g n c q:Nat) (p:Int) (l:List Fr) (h:rp w g l) (hl:l.length=n) (hn:n≤1000000) (hq:w.cell? ⟨q,0,none⟩=some (.int .i64 p)):
  Calls Tryz.prog 220 #[.slice (some ⟨g,0,none⟩) n c,.func (Fn.func 221) #[] #[.pointer (some ⟨q,0,none⟩)]] w fun e w'=>e= .returned (.int .i64 (zI (fun f=>decide (f.al=p)) l))∧Below w.heap.size w w':=by
 have HL:=xh hl;have H0:=xh h;have HQ:=xh hq;clear h hq hl;go_enter Tryz.func220,Tryz.ntmps220;go_wp2_with fail
 go_loopw [8] (fun iv wr=> ∃i:Nat,i≤n∧iv= .int .i64 i∧Hid (∀j a,j<i→l[j]?=some a→decide (a.al=p)=false)∧Hid (Below w.heap.size w wr)) (fun iv _=>n-(intOf iv).toNat)
 case atStart=>exact ⟨0,Nat.zero_le _,rfl,xh (fun j a hj=>absurd hj (Nat.not_lt_zero j)),xh (Below.refl _ _)⟩
 case round=>
  obtain ⟨i,hi,rfl,HA,HB⟩:=hrel
  by_cases h:i<n
  ·have hf:l[i]?=some (l[i]'(by have:=HL.out; omega)):=List.getElem?_eq_getElem _;generalize (l[i]'(by have:=HL.out; omega))=f at hf;obtain ⟨c0,c1,c2,c3,c4⟩:=(H0.out.below HB.out) i f hf;have KF:=xh (mJ f q p wr ((HB.out.cell (da HQ.out)).trans HQ.out) _ rfl);have HF:=xh hf;clear hf;unfold Fr.agg at KF;obtain ⟨b,hb⟩: ∃b,decide (f.al=p)=b:=⟨_,rfl⟩;rw [hb] at KF;have HD:=xh hb;clear hb;go_wp2_with fail;refine KF.out.mono ?_;rintro e w1 ⟨rfl,aM⟩
   have ER:=xh (ao HB.out aM);clear aM
   cases b with
   | true=>
    have he:=xh (sq (b:=fun f=>decide (f.al=p)) HF.out HD.out HA.out);go_wp2_with fail;go_ret;exact ⟨by rw [he.out]; rfl,ER.out⟩
   | false=>
    go_wp2_with fail;go_roundw
    case rel=>
     refine ⟨i+1,by omega,by go_num,xh (fun j a hj ha=>?_),ER⟩
     rcases Nat.lt_succ_iff_lt_or_eq.1 hj with hj | rfl
     ·exact HA.out j a hj ha
     ·have:=HF.out.symm.trans ha;injection this with this
      subst this;exact HD.out
    case measure=>simp [intOf]; omega
  ·have he:=xh (tr (b:=fun f=>decide (f.al=p)) (l:=l) (fun j a ha=>HA.out j a (by have:=(List.getElem?_eq_some_iff.1 ha).1; have:=HL.out; omega) ha));go_wp2_with fail;go_ret;exact ⟨by rw [he.out]; rfl,HB.out⟩
end Go.Proofs.YtmonobkginiajaaGreat.Sh
namespace Go.Proofs.YtmonobkginiajaaGreat.Sh
open Go.RowKit Pk Dk Pg
attribute [local go_sem ↓] Go.wp_at_zero Go.wp_at_succ aX
theorem CF:(Tryz.prog.info? 167).map (fun i=>(i.zero,i.size,i.bytes))=some (some (.agg #[.int .i64 0,.string ⟨#[]⟩,.int .i64 0,.bool false,.bool false]),5,40):=by kernel_rfl
theorem CG (l k:List Fr):yk (l++k)=yk l++yk k:=by simp [yk]
theorem CH {w a b c:World} {v:Value} (h:Below w.heap.size w a) (k:Below a.heap.size a b) (o:ag (ah v) b c) (hf: ∀g∈ah v,w.heap.size≤g):Below w.heap.size w c:=
 (ao h k).trans (o.ay (Nat.le_trans h.size k.size) hf)
theorem append_nil {w:World} {v:Value} {n:Nat} {l:List Fr} (h:aG w 167 5 v n (yk l)) (hn:n≤1000):
  ∃v' w',dI Tryz.prog 141 141 (w.alloc (.cells #[.int .i64 (-1),.string ⟨#[]⟩,.int .i64 0,.bool false,.bool false] 167)) v (.slice (some ⟨w.heap.size,0,none⟩) 1 1)= .ok v' w'∧aG w' 167 5 v' (n+1) (yk (l++[Fr.nil]))∧ag (ah v) w w'∧(∀g∈ah v',g∈ah v∨w.heap.size≤g):=by
 obtain ⟨i0,hi,iL,gM,iw⟩:=info_parts CF;obtain ⟨v',w',h1,h2,h3,h4⟩:=cN (P:=Tryz.prog) (h.alloc (.cells #[.int .i64 (-1),.string ⟨#[]⟩,.int .i64 0,.bool false,.bool false] 167)) 141 141 i0 _ 40 Tryz.underlying141 hi iL gM iw rfl (by omega)
  ⟨w.heap.size,0,none⟩ 1 1 Fr.nil.cs rfl (aV (l:=Fr.nil.cs) (ax.new w _ #[.int .i64 (-1),.string ⟨#[]⟩,.int .i64 0,.bool false,.bool false]) 0 _ (by intro j u hu; rw [Nat.zero_add]; exact hu)) (by intro u hu; simp [Fr.cs,Fr.nil] at hu; rcases hu with rfl | rfl | rfl | rfl<;>rfl) (by unfold maxLen; omega) (by omega)
 refine ⟨v',w',h1,?_,((ag.refl _ _).alloc _).aS h3 (fun x hx _=>hx),fun g hg=>(h4 g hg).imp id (fun h=>by simp at h; omega)⟩;rw [CG];exact h2
theorem JI {w:World} (b k:Nat) (h1:1≤k) (h2:k≤32):
  Calls Tryz.prog 34 #[sp b,.int .i64 (k:Nat)] w fun e w'=> ∃pb v,e= .returned (.tuple #[.pointer (some ⟨pb,0,none⟩),.int .i64 0])∧ax w' pb 143 #[sp b,v,.int .i64 0]∧aG w' 167 5 v k (yk (List.replicate k Fr.nil))∧Below w.heap.size w w'∧w.heap.size≤pb∧ ∀g∈ah v,w.heap.size≤g:=by
 have KE:=xh mI;have O0:=xh (ae (Below.refl w.heap.size w) (.cells #[sp b,.slice none 0 0,.int .i64 0] 143));have B0:=xh (ax.new w 143 #[sp b,.slice none 0 0,.int .i64 0]);have k1: ¬(k:Int)<1:=by omega
 have k2: ¬(32:Int)<(k:Int):=by omega
 unfold sp at *;go_enter Tryz.func34,Tryz.ntmps34;go_wp2_with fail;generalize hwa:w.alloc (.cells #[.pointer (some ⟨b,0,none⟩),.slice none 0 0,.int .i64 0] 143)=wa at *;clear hwa
 go_loopw [21] (fun iv wr=> ∃i:Nat,i≤k∧iv= .int .i64 i∧ ∃v,Hid (ax wr w.heap.size 143 #[.pointer (some ⟨b,0,none⟩),v,.int .i64 0])∧Hid (aG wr 167 5 v i (yk (List.replicate i Fr.nil)))∧Hid (Below w.heap.size w wr)∧Hid (∀g∈ah v,w.heap.size≤g)) (fun iv _=>k-(intOf iv).toNat)
 case atStart=>exact ⟨0,Nat.zero_le _,rfl,.slice none 0 0,B0,xh (aG.nil _ _ _),O0,xh (by simp [ah])⟩
 case round=>
  obtain ⟨i,hi,rfl,v,BP,SP,OB,FR⟩:=hrel
  by_cases h:i<k
  ·obtain ⟨A,cc,rfl⟩:=aq SP.out;have hI:(i:Int)<(k:Int):=by omega
   have OD:=xh (show Below wr.heap.size wr wr.drew from (Below.refl _ _).drew);have c0:=BP.out.ab (i:=1) rfl;have NB:=xh (show w.heap.size∉ah (.slice A i cc) from cv SP.out BP.out (by decide));go_wp2_with fail;refine wp_region_held_drew (S:=fun _=>True) (by kernel_rfl) (trivial) (fun aj=>?_);refine bR [(0,23),(1,24),(2,25),(3,26)] ?_
   iterate 4 (refine zt ?_; try simp only [Act.put,pa,pb,pc])
   refine bS ?_;refine wpAnyH_ready (rs:=[4,5]) (by kernel_rfl) (by simp) ?_;refine AllReadyH.cons (o:=⟨some 27,_,_,_,_,_⟩) rfl (fun K hK=>?_) (AllReadyH.cons (o:=⟨some 28,_,_,_,_,_⟩) rfl (fun K hK=>?_) AllReadyH.nil)
   ·skip
    go_simp;refine hK.out _ _ (trivial) (fun aj=>?_)
    try simp only [Act.put,pa,pb,pc]
    refine cA (i:=5) (o:=⟨some 28,_,_,_,_,_⟩) fun K hK=>?_;go_simp
    go_at_call 86
    refine (KE.out _).mono ?_;rintro e v1 ⟨rfl,lz⟩;have P1:=xh (ao OD.out lz);have BP1:=xh (BP.out.below P1.out BP.out.lt);have SP1:=xh (SP.out.below P1.out);have cl:=BP1.out.ab (i:=1) rfl;clear lz;unfold Fr.nil Fr.agg;go_simp;refine hK.out _ _ (trivial) (fun aj=>?_)
    try simp only [Act.put,pa,pb,pc]
    refine cA (i:=6) (o:=⟨some 29,_,_,_,_,_⟩) fun K hK=>?_;go_simp;obtain ⟨v2,w2,ea,S2,IE,EL⟩:=append_nil SP1.out (by omega);obtain ⟨A2,yl,rfl⟩:=aq S2;have EA:=xh ea;have SP2:=xh S2;have OW2:=xh IE;have FR2:=xh EL;have ES:=xh (BP1.out.only OW2.out NB.out);clear ea S2 IE EL cl;refine hK.out _ _ (trivial) (fun aj=>?_)
    try simp only [Act.put,pa,pb,pc]
    refine cA (i:=7) (o:=⟨some 30,_,_,_,_,_⟩) fun K hK=>?_;go_simp;rw [EA.out];go_simp;refine hK.out _ _ (trivial) (fun aj=>?_)
    try simp only [Act.put,pa,pb,pc]
    refine bR [(8,31),(9,32)] ?_
    iterate 2 (refine zt ?_; try simp only [Act.put,pa,pb,pc])
    refine bS ?_;refine cA (i:=10) (o:=⟨none,_,_,_,_,_⟩) fun K hK=>?_;go_simp;have q0:=ES.out.ab (i:=1) rfl;have q1:=ES.out.frozen 1 (by simp);go_simp;refine hK.out _ _ (trivial) (fun aj=>?_)
    try simp only [Act.put,pa,pb,pc]
    refine wpAnyH_done (by kernel_rfl) ?_ _;have BP3:=ES.out.bq 1 (.slice A2 (i+1) yl);have SP3:=SP2.out.only ((ag.refl [w.heap.size] w2).setCell (p:=⟨w.heap.size,1,none⟩) (by simp) (.slice A2 (i+1) yl)) (fun g hg hm=>by simp at hm; subst hm; exact cv SP2.out ES.out (by decide) hg);have O3:=Below.setCell (CH OB.out P1.out OW2.out FR.out) (p:=⟨w.heap.size,1,none⟩) (Nat.le_refl _) (.slice A2 (i+1) yl)
    have ym: ∀g∈ah (.slice A2 (i+1) yl),w.heap.size≤g:=fun g hg=>(FR2.out g hg).elim (FR.out g) (fun h=>by have:=OB.out.size; have:=P1.out.size; omega);have BP4:=xh BP3;have SP4:=xh SP3;have O4:=xh O3;have HFR:=xh ym;clear BP3 SP3 O3 ym q0 q1;go_wp2_with fail;go_roundw
    case rel=>
     refine ⟨i+1,by omega,by go_num,.slice A2 (i+1) yl,BP4,?_,O4,HFR⟩;rw [show List.replicate (i+1) Fr.nil=List.replicate i Fr.nil++[Fr.nil] from List.replicate_succ'];exact SP4
    case measure=>simp [intOf]; omega
   ·skip
    go_simp
    go_at_call 86
    refine (KE.out _).mono ?_;rintro e v1 ⟨rfl,lz⟩;have P1:=xh (ao OD.out lz);have BP1:=xh (BP.out.below P1.out BP.out.lt);have SP1:=xh (SP.out.below P1.out);have cl:=BP1.out.ab (i:=1) rfl;clear lz;unfold Fr.nil Fr.agg;go_simp;refine hK.out _ _ (trivial) (fun aj=>?_)
    try simp only [Act.put,pa,pb,pc]
    refine wpAnyH_ready (rs:=[4,6]) (by kernel_rfl) (by simp) ?_;refine AllReadyH.cons (o:=⟨some 27,_,_,_,_,_⟩) rfl (fun K hK=>?_) (AllReadyH.cons (o:=⟨some 29,_,_,_,_,_⟩) rfl (fun K hK=>?_) AllReadyH.nil)
    ·skip
     go_simp;refine hK.out _ _ (trivial) (fun aj=>?_)
     try simp only [Act.put,pa,pb,pc]
     refine cA (i:=6) (o:=⟨some 29,_,_,_,_,_⟩) fun K hK=>?_;go_simp;obtain ⟨v2,w2,ea,S2,IE,EL⟩:=append_nil SP1.out (by omega);obtain ⟨A2,yl,rfl⟩:=aq S2;have EA:=xh ea;have SP2:=xh S2;have OW2:=xh IE;have FR2:=xh EL;have ES:=xh (BP1.out.only OW2.out NB.out);clear ea S2 IE EL cl;refine hK.out _ _ (trivial) (fun aj=>?_)
     try simp only [Act.put,pa,pb,pc]
     refine cA (i:=7) (o:=⟨some 30,_,_,_,_,_⟩) fun K hK=>?_;go_simp;rw [EA.out];go_simp;refine hK.out _ _ (trivial) (fun aj=>?_)
     try simp only [Act.put,pa,pb,pc]
     refine bR [(8,31),(9,32)] ?_
     iterate 2 (refine zt ?_; try simp only [Act.put,pa,pb,pc])
     refine bS ?_;refine cA (i:=10) (o:=⟨none,_,_,_,_,_⟩) fun K hK=>?_;go_simp;have q0:=ES.out.ab (i:=1) rfl;have q1:=ES.out.frozen 1 (by simp);go_simp;refine hK.out _ _ (trivial) (fun aj=>?_)
     try simp only [Act.put,pa,pb,pc]
     refine wpAnyH_done (by kernel_rfl) ?_ _;have BP3:=ES.out.bq 1 (.slice A2 (i+1) yl);have SP3:=SP2.out.only ((ag.refl [w.heap.size] w2).setCell (p:=⟨w.heap.size,1,none⟩) (by simp) (.slice A2 (i+1) yl)) (fun g hg hm=>by simp at hm; subst hm; exact cv SP2.out ES.out (by decide) hg);have O3:=Below.setCell (CH OB.out P1.out OW2.out FR.out) (p:=⟨w.heap.size,1,none⟩) (Nat.le_refl _) (.slice A2 (i+1) yl)
     have ym: ∀g∈ah (.slice A2 (i+1) yl),w.heap.size≤g:=fun g hg=>(FR2.out g hg).elim (FR.out g) (fun h=>by have:=OB.out.size; have:=P1.out.size; omega);have BP4:=xh BP3;have SP4:=xh SP3;have O4:=xh O3;have HFR:=xh ym;clear BP3 SP3 O3 ym q0 q1;go_wp2_with fail;go_roundw
     case rel=>
      refine ⟨i+1,by omega,by go_num,.slice A2 (i+1) yl,BP4,?_,O4,HFR⟩;rw [show List.replicate (i+1) Fr.nil=List.replicate i Fr.nil++[Fr.nil] from List.replicate_succ'];exact SP4
     case measure=>simp [intOf]; omega
    ·skip
     go_simp;obtain ⟨v2,w2,ea,S2,IE,EL⟩:=append_nil SP1.out (by omega);obtain ⟨A2,yl,rfl⟩:=aq S2;have EA:=xh ea;have SP2:=xh S2;have OW2:=xh IE;have FR2:=xh EL;have ES:=xh (BP1.out.only OW2.out NB.out);clear ea S2 IE EL cl;have cl:=(BP1.out.alloc (.cells #[.int .i64 (-1),.string ⟨#[]⟩,.int .i64 0,.bool false,.bool false] 167)).ab (i:=1) rfl;refine hK.out _ _ (trivial) (fun aj=>?_)
     try simp only [Act.put,pa,pb,pc]
     refine cA (i:=4) (o:=⟨some 27,_,_,_,_,_⟩) fun K hK=>?_;go_simp;refine hK.out _ _ (trivial) (fun aj=>?_)
     try simp only [Act.put,pa,pb,pc]
     refine cA (i:=7) (o:=⟨some 30,_,_,_,_,_⟩) fun K hK=>?_;go_simp;rw [EA.out];go_simp;refine hK.out _ _ (trivial) (fun aj=>?_)
     try simp only [Act.put,pa,pb,pc]
     refine bR [(8,31),(9,32)] ?_
     iterate 2 (refine zt ?_; try simp only [Act.put,pa,pb,pc])
     refine bS ?_;refine cA (i:=10) (o:=⟨none,_,_,_,_,_⟩) fun K hK=>?_;go_simp;have q0:=ES.out.ab (i:=1) rfl;have q1:=ES.out.frozen 1 (by simp);go_simp;refine hK.out _ _ (trivial) (fun aj=>?_)
     try simp only [Act.put,pa,pb,pc]
     refine wpAnyH_done (by kernel_rfl) ?_ _;have BP3:=ES.out.bq 1 (.slice A2 (i+1) yl);have SP3:=SP2.out.only ((ag.refl [w.heap.size] w2).setCell (p:=⟨w.heap.size,1,none⟩) (by simp) (.slice A2 (i+1) yl)) (fun g hg hm=>by simp at hm; subst hm; exact cv SP2.out ES.out (by decide) hg);have O3:=Below.setCell (CH OB.out P1.out OW2.out FR.out) (p:=⟨w.heap.size,1,none⟩) (Nat.le_refl _) (.slice A2 (i+1) yl)
     have ym: ∀g∈ah (.slice A2 (i+1) yl),w.heap.size≤g:=fun g hg=>(FR2.out g hg).elim (FR.out g) (fun h=>by have:=OB.out.size; have:=P1.out.size; omega);have BP4:=xh BP3;have SP4:=xh SP3;have O4:=xh O3;have HFR:=xh ym;clear BP3 SP3 O3 ym q0 q1;go_wp2_with fail;go_roundw
     case rel=>
      refine ⟨i+1,by omega,by go_num,.slice A2 (i+1) yl,BP4,?_,O4,HFR⟩;rw [show List.replicate (i+1) Fr.nil=List.replicate i Fr.nil++[Fr.nil] from List.replicate_succ'];exact SP4
     case measure=>simp [intOf]; omega
  ·have e:i=k:=by omega
   subst e;go_wp2_with fail;go_ret2;exact ⟨w.heap.size,v,by first | rfl | simp,BP.out,SP.out,OB.out,Nat.le_refl _,FR.out⟩
end Go.Proofs.YtmonobkginiajaaGreat.Sh
namespace Go.Proofs.YtmonobkginiajaaGreat.Sh
open Go.RowKit Pk Dk Pg
attribute [local go_sem ↓] Go.wp_at_zero Go.wp_at_succ
structure Y where
 x:X
 pb:Nat
 fg:Nat
 cp:Nat
structure PS where
 c:C
 l:List Fr
 hand:Nat
def pp (b:Nat):Value:= .pointer (some ⟨b,0,none⟩)
def Y.fp (y:Y):List Nat:=y.pb::y.fg::y.x.fp
structure fJ (w:World) (y:Y) (n:Nat) (s:PS):Prop where
 hp:ax w y.pb 143 #[sp y.x.b,.slice (some ⟨y.fg,0,none⟩) s.l.length y.cp,.int .i64 (s.hand:Nat)]
 hf:aG w 167 5 (.slice (some ⟨y.fg,0,none⟩) s.l.length y.cp) s.l.length (yk s.l)
 hs:At w y.x n s.c
 n1:y.pb∉y.x.fp
 n2:y.fg∉y.x.fp
 l1:1≤s.l.length
 l2:s.l.length≤32
 lh:s.hand<s.l.length
section
variable {w w':World} {y:Y} {n:Nat} {s:PS} {S:List Nat}
theorem fJ.n3 (h:fJ w y n s):y.pb≠y.fg:=fun e=>cv h.hf h.hp (by decide) (by simp [ah,e])
theorem fJ.only (h:fJ w y n s) (ho:ag S w w') (hd: ∀g∈y.fp,g∉S):fJ w' y n s:=
 ⟨h.hp.only ho (hd _ (by simp [Y.fp])),h.hf.only ho (fun g hg=>hd g (by simp [ah] at hg; simp [Y.fp,hg])),h.hs.only ho (fun g hg=>hd g (by simp [Y.fp,hg])),h.n1,h.n2,h.l1,h.l2,h.lh⟩
theorem fJ.below (h:fJ w y n s) (hb:Below w.heap.size w w'):fJ w' y n s:=h.only (S:=[]) (.ak hb) (by simp)
theorem fJ.drew (h:fJ w y n s):fJ w.drew y n s:=h.below ((Below.refl _ _).drew)
theorem fJ.lt (h:fJ w y n s): ∀g∈y.fp,g<w.heap.size:=by
 intro g hg;simp only [Y.fp,List.mem_cons] at hg
 rcases hg with rfl | rfl | hg
 ·exact h.hp.lt
 ·exact h.hf.lt _ (by simp [ah])
 ·exact h.hs.lt g hg
theorem fJ.p0 (h:fJ w y n s):w.cell? ⟨y.pb,0,none⟩=some (.pointer (some ⟨y.x.b,0,none⟩)):=h.hp.ab rfl
theorem fJ.p1 (h:fJ w y n s):w.cell? ⟨y.pb,1,none⟩=some (.slice (some ⟨y.fg,0,none⟩) s.l.length y.cp):=h.hp.ab rfl
theorem fJ.p2 (h:fJ w y n s):w.cell? ⟨y.pb,2,none⟩=some (.int .i64 (s.hand:Nat)):=h.hp.ab rfl
theorem fJ.vP (h:fJ w y n s):rp w y.fg s.l:=by
 obtain ⟨rest,B,_⟩:=h.hf.oM;exact .of B
theorem fJ.store (h:fJ w y n s) {c':C} (p: ∃x',x'.b=y.x.b∧x'.L=y.x.L∧At w' x' n c'∧ag y.x.fp w w'∧ ∀g∈x'.fp,g∈y.x.fp∨w.heap.size≤g):
  ∃y',y'.pb=y.pb∧y'.fg=y.fg∧y'.cp=y.cp∧y'.x.b=y.x.b∧y'.x.L=y.x.L∧fJ w' y' n {s with c:=c'}∧ag y.fp w w'∧ ∀g∈y'.fp,g∈y.fp∨w.heap.size≤g:=by
 obtain ⟨x',e1,e2,A,o,fr⟩:=p;have l1:=h.lt y.pb (by simp [Y.fp]);have l2:=h.lt y.fg (by simp [Y.fp]);refine ⟨⟨x',y.pb,y.fg,y.cp⟩,rfl,rfl,rfl,e1,e2,⟨?_,h.hf.only o (fun g hg=>by simp [ah] at hg; subst hg; exact h.n2),A,?_,?_,h.l1,h.l2,h.lh⟩,o.mono (fun g hg _=>by simp [Y.fp,hg]),?_⟩
 ·show ax w' y.pb _ #[sp x'.b,_,_];rw [e1];exact h.hp.only o h.n1
 ·exact fun hg=>(fr _ hg).elim h.n1 (fun h=>absurd l1 (Nat.not_lt.2 h))
 ·exact fun hg=>(fr _ hg).elim h.n2 (fun h=>absurd l2 (Nat.not_lt.2 h))
 ·intro g hg;simp only [Y.fp,List.mem_cons] at hg ⊢
  rcases hg with rfl | rfl | hg
  ·exact .inl (.inl rfl)
  ·exact .inl (.inr (.inl rfl))
  ·exact (fr g hg).imp (fun h=> .inr (.inr h)) id
end
theorem fQ {w:World} {y:Y} {n:Nat} {s:PS} (h:fJ w y n s) (l:Int):
  Calls Tryz.prog 178 #[pp y.pb,.int .i64 l] w fun e w'=>e= .returned (.int .i64 (findF s.l l))∧Below w.heap.size w w':=by
 have O0:=xh (ae (Below.refl w.heap.size w) (.cells #[.int .i64 l] 3));have B0:=xh (ax.new w 3 #[.int .i64 l]);have H0:=h.below O0.out;have q0:=B0.out.ab (i:=0) rfl;have KI:=xh (CE y.fg s.l.length y.cp w.heap.size l s.l H0.vP rfl (by have:=h.l2; omega) q0);have p1:=H0.p1;obtain ⟨R,hR⟩: ∃R,findF s.l l=R:=⟨_,rfl⟩;rw [hR];unfold findF at hR;generalize s.l.length=tn at *;clear H0 h;unfold pp
 by_cases h1:l<0
 ·rw [if_pos h1] at hR;subst hR;go_enter Tryz.func178,Tryz.ntmps178;go_wp2_with fail;go_ret;exact ⟨by first | rfl | simp,O0.out⟩
 ·rw [if_neg h1] at hR;rw [hR] at KI;clear hR;go_enter Tryz.func178,Tryz.ntmps178;go_wp2_with fail;refine KI.out.mono ?_;rintro e w1 ⟨rfl,aM⟩;have O1:=xh (ao O0.out aM);clear aM;go_wp2_with fail;go_ret;exact ⟨by first | rfl | simp,O1.out⟩
end Go.Proofs.YtmonobkginiajaaGreat.Sh
namespace Go.Proofs.YtmonobkginiajaaGreat.Sh
open Go.RowKit Pk Dk Pg
attribute [local go_sem ↓] Go.wp_at_zero Go.wp_at_succ
theorem frc_set (l:List Fr) (k j:Nat) (hj:j<5) (f f':Fr) (u:Value) (hf:l[k]?=some f) (hu:f'.cs=f.cs.set j u):(yk l).set (k*5+j) u=yk (l.set k f'):=by
 induction l generalizing k with
 | nil=>simp at hf
 | cons a l ih=>
  have e5:a.cs.length=5:=rfl
  cases k with
  | zero=>
   simp at hf;subst hf;simp only [yk,List.flatMap_cons,List.set_cons_zero,Nat.zero_mul,Nat.zero_add] at ih ⊢;rw [List.set_append_left _ _ (by omega),hu]
  | succ k=>
   simp at hf;have:=ih k hf;simp only [yk,List.flatMap_cons,List.set_cons_succ] at this ⊢;rw [List.set_append_right _ _ (by omega),e5,show (k+1)*5+j-5=k*5+j from by omega,this]
section
variable {w w':World} {y:Y} {n:Nat} {s:PS} {S:List Nat}
theorem fJ.dY (h:fJ w y n s) (k j:Nat) (hj:j<5) {f:Fr} (f':Fr) (u:Value) (hf:s.l[k]?=some f) (hu:f'.cs=f.cs.set j u):
  w.frozen? ⟨y.fg,k*5+j,none⟩=false∧fJ (w.setCell ⟨y.fg,k*5+j,none⟩ u) y n {s with l:=s.l.set k f'}∧ag y.fp w (w.setCell ⟨y.fg,k*5+j,none⟩ u):=by
 have hk:k<s.l.length:=(List.getElem?_eq_some_iff.1 hf).1;have hl:=jJ s.l;obtain ⟨rest,B,hr,_,hm⟩:=h.hf.oM;have o:ag [y.fg] w (w.setCell ⟨y.fg,k*5+j,none⟩ u):=(ag.refl _ _).setCell (by simp) _;have B2:=B.bq (k*5+j) u;rw [List.setIfInBounds_toArray,List.set_append_left _ _ (by omega),frc_set s.l k j hj f f' u hf hu] at B2
 refine ⟨B.frozen _ (by simp; omega),⟨?_,?_,h.hs.only o (fun g hg hm=>by simp at hm; subst hm; exact h.n2 hg),h.n1,h.n2,by simpa using h.l1,by simpa using h.l2,by simpa using h.lh⟩,o.mono (fun g hg _=>by simp at hg; subst hg; simp [Y.fp])⟩
 ·have:=h.hp.only o (by simpa using h.n3);simpa using this
 ·refine ⟨by rw [jJ],.inr ⟨y.fg,y.cp,rest,by simp,B2,by rw [jJ,List.length_set]; omega,hm⟩⟩
theorem fJ.setH (h:fJ w y n s) (k:Nat) (hk:k<s.l.length):
  w.frozen? ⟨y.pb,2,none⟩=false∧fJ (w.setCell ⟨y.pb,2,none⟩ (.int .i64 (k:Nat))) y n {s with hand:=k}∧ag y.fp w (w.setCell ⟨y.pb,2,none⟩ (.int .i64 (k:Nat))):=by
 have o:ag [y.pb] w (w.setCell ⟨y.pb,2,none⟩ (.int .i64 (k:Nat))):=(ag.refl _ _).setCell (by simp) _;have n3:=h.n3;refine ⟨h.hp.frozen 2 (by simp),⟨h.hp.bq 2 _,h.hf.only o (fun g hg hm=>by simp [ah] at hg hm; omega),h.hs.only o (fun g hg hm=>by simp at hm; subst hm; exact h.n1 hg),h.n1,h.n2,h.l1,h.l2,hk⟩,o.mono (fun g hg _=>by simp at hg; subst hg; simp [Y.fp])⟩
end
theorem yn (b:Fr→Bool) (l:List Fr):zI b l= -1∨ ∃k f,zI b l=((k:Nat):Int)∧l[k]?=some f∧b f=true:=by
 unfold zI
 by_cases h:l.findIdx b<l.length
 ·rw [if_pos h];exact .inr ⟨l.findIdx b,l[l.findIdx b],rfl,List.getElem?_eq_getElem h,List.findIdx_getElem⟩
 ·rw [if_neg h];exact .inl rfl
theorem fe (l:List Fr) (p:Int):findF l p= -1∨ ∃k f,findF l p=((k:Nat):Int)∧l[k]?=some f∧f.al=p∧0≤p:=by
 unfold findF
 by_cases h:p<0
 ·rw [if_pos h]; exact .inl rfl
 ·rw [if_neg h];exact (yn _ l).imp id (fun ⟨k,f,e1,e2,e3⟩=>⟨k,f,e1,e2,by simpa using e3,by omega⟩)
def PS.fA (s:PS) (p:Int):Option (Nat×Fr):=
 if findF s.l p<0 then none else match s.l[(findF s.l p).toNat]? with
  | none=>none
  | some f=>if f.held=0 then none else some ((findF s.l p).toNat,f)
def oW (y:Y):Option (Nat×Fr)→Value
 | none=> .tuple #[.pointer none,.int .i64 16]
 | some (k,_)=> .tuple #[.pointer (some ⟨y.fg,k*5,none⟩),.int .i64 0]
theorem tt {w:World} {y:Y} {n:Nat} {s:PS} (h:fJ w y n s) (p:Int):
  Calls Tryz.prog 230 #[pp y.pb,.int .i64 p] w fun e w'=>e= .returned (oW y (s.fA p))∧Below w.heap.size w w':=by
 have KF:=xh (fQ h p);have HB:=xh (fun w' (hb:Below w.heap.size w w')=>h.below hb);obtain ⟨R,hR⟩: ∃R,oW y (s.fA p)=R:=⟨_,rfl⟩;rw [hR];unfold PS.fA at hR;unfold pp at *
 rcases fe s.l p with e | ⟨k,f,e,hf,_,_⟩
 ·rw [e,if_pos (by omega)] at hR;rw [e] at KF;subst hR;unfold oW;clear h e;go_enter Tryz.func230,Tryz.ntmps230;go_wp2_with fail;refine KF.out.mono ?_;rintro e w1 ⟨rfl,aM⟩;have O1:=xh aM;clear aM;go_wp2_with fail;go_ret2;exact ⟨by first | rfl | simp,O1.out⟩
 ·rw [e,if_neg (by omega),show ((k:Nat):Int).toNat=k from by omega,hf] at hR;rw [e] at KF;have hk:k<s.l.length:=(List.getElem?_eq_some_iff.1 hf).1;have IF:(k:Int)<(s.l.length:Int):=by omega
  have II: ¬(k:Int)<0:=by omega
  have HX:=xh (fun w' (hb:Below w.heap.size w w')=>(show w'.cell? ⟨y.pb,1,none⟩=some (.slice (some ⟨y.fg,0,none⟩) s.l.length y.cp)∧w'.cell? ⟨y.fg,k*5+2,none⟩=some (.int .i64 f.held) from ⟨(HB.out w' hb).p1,((HB.out w' hb).vP k f hf).2.2.1⟩));have HL:=xh (show s.l.length≤32 from h.l2);dsimp only at hR
  by_cases hh:f.held=0
  ·rw [if_pos hh] at hR;subst hR;have hq:(f.held==0)=true:=by rw [beq_iff_eq]; exact hh
   unfold oW;clear h e hf hk hh;generalize f.held=fh at *;generalize s.l.length=tn at *;go_enter Tryz.func230,Tryz.ntmps230;go_wp2_with fail;refine KF.out.mono ?_;rintro e w1 ⟨rfl,aM⟩;have O1:=xh aM;obtain ⟨x1,x2⟩:=HX.out w1 aM;clear aM;go_wp2_with fail;go_ret2;exact ⟨by first | rfl | simp,O1.out⟩
  ·rw [if_neg hh] at hR;subst hR;have hq:(f.held==0)=false:=by rw [beq_eq_false_iff_ne]; exact hh
   unfold oW;clear h e hf hk hh;generalize f.held=fh at *;generalize s.l.length=tn at *;go_enter Tryz.func230,Tryz.ntmps230;go_wp2_with fail;refine KF.out.mono ?_;rintro e w1 ⟨rfl,aM⟩;have O1:=xh aM;obtain ⟨x1,x2⟩:=HX.out w1 aM;clear aM;go_wp2_with fail;go_ret2;exact ⟨by first | rfl | simp,O1.out⟩
end Go.Proofs.YtmonobkginiajaaGreat.Sh
namespace Go.Proofs.YtmonobkginiajaaGreat.Sh
open Go.RowKit Pk Dk Pg
attribute [local go_sem ↓] Go.wp_at_zero Go.wp_at_succ
def PS.fI (s:PS) (p:Int):PS×Int:=match s.fA p with
 | none=>(s,16)
 | some (k,f)=>({s with l:=s.l.set k {f with held:=f.held-1}},0)
theorem tu {s:PS} {p:Int} {k:Nat} {f:Fr} (h:s.fA p=some (k,f)):s.l[k]?=some f∧f.held≠0∧findF s.l p=k:=by
 unfold PS.fA at h
 rcases fe s.l p with e | ⟨j,g,e,hf,_,_⟩
 ·rw [e,if_pos (by omega)] at h
  cases h
 ·rw [e,if_neg (by omega),show ((j:Nat):Int).toNat=j from by omega,hf] at h;dsimp only at h
  split at h
  ·cases h
  ·rename_i hh;injection h with h
   injection h with h1 h2
   subst h1 h2;exact ⟨hf,hh,e⟩
def PostP (w w':World) (y:Y) (n:Nat) (s':PS):Prop:= ∃y',y'.pb=y.pb∧y'.fg=y.fg∧y'.cp=y.cp∧y'.x.b=y.x.b∧y'.x.L=y.x.L∧fJ w' y' n s'∧ag y.fp w w'∧ ∀g∈y'.fp,g∈y.fp∨w.heap.size≤g
theorem let_any {w:World} {y:Y} {n:Nat} {s:PS} (h:fJ w y n s) (p:Int) (hb: ∀f∈s.l,-1000≤f.held∧f.held≤4000000000000):
  Calls Tryz.prog 214 #[pp y.pb,.int .i64 p] w fun e w'=>e= .returned (.int .i64 (s.fI p).2)∧fJ w' y n (s.fI p).1∧ag y.fp w w':=by
 have KH:=xh (tt h p);have HB:=xh (fun w' (hb:Below w.heap.size w w')=>h.below hb);obtain ⟨R,hR⟩: ∃R,s.fI p=R:=⟨_,rfl⟩;rw [hR];unfold PS.fI at hR;unfold pp at *
 cases hd:s.fA p with
 | none=>
  rw [hd] at hR KH;dsimp only at hR;subst hR;unfold oW at KH;clear h hd hb;go_enter Tryz.func214,Tryz.ntmps214;go_wp2_with fail;refine KH.out.mono ?_;rintro e w1 ⟨rfl,aM⟩;have O1:=xh aM;clear aM;go_wp2_with fail;go_ret;exact ⟨by first | rfl | simp,HB.out _ O1.out,.ak O1.out⟩
 | some r=>
  obtain ⟨k,f⟩:=r;obtain ⟨hf,hh,_⟩:=tu hd;rw [hd] at hR KH;dsimp only at hR;subst hR;have hfb:=hb f (List.mem_of_getElem? hf);have HS:=xh (fun w' (hb:Below w.heap.size w w')=>(HB.out w' hb).dY k 2 (by omega) {f with held:=f.held-1} (.int .i64 (f.held-1)) hf rfl);have HC:=xh (fun w' (hb:Below w.heap.size w w')=>((HB.out w' hb).vP k f hf).2.2.1);have m1:IntKind.i64.wrap (f.held-1)=f.held-1:=IntWalk.i64_in _ (by omega);unfold oW at KH;clear h hd hb hf hfb hh
  generalize f.held=fh at *;go_enter Tryz.func214,Tryz.ntmps214;go_wp2_with fail;refine KH.out.mono ?_;rintro e w1 ⟨rfl,aM⟩;have O1:=xh aM;obtain ⟨z1,A1,o1⟩:=HS.out w1 aM;have A1:=xh A1;have o1:=xh o1;have c1:=HC.out w1 aM;clear aM;go_wp2_with fail;go_ret;exact ⟨by first | rfl | simp,A1.out,(ag.ak O1.out).trans o1.out⟩
theorem Gs {w:World} {y:Y} {n:Nat} {s:PS} (h:fJ w y n s) (v:ByteArray) (hs:v.size≤9223372036854775807) (y9:0≤s.c.ep∧s.c.ep≤1099511627776) (hc:s.c.d.calls≤3999999999999999990) (hr:s.c.d.aP≤9223372036854775807):
  Calls Tryz.prog 69 #[pp y.pb,.string v] w fun e w'=>e= .returned (.tuple #[.int .i64 (s.c.bm n v.data.toList).2.1,.int .i64 (s.c.bm n v.data.toList).2.2])∧PostP w w' y n {s with c:=(s.c.bm n v.data.toList).1}:=by
 have KN:=xh (new_any h.hs v hs y9 hc hr);have HP:=xh (fun w' (p:zG w w' y.x n (s.c.bm n v.data.toList).1)=>(show PostP w w' y n {s with c:=(s.c.bm n v.data.toList).1} from h.store p));have p0:=h.p0;generalize (s.c.bm n v.data.toList)=R at *;clear h hs y9 hc hr;unfold pp sp at *;go_enter Tryz.func69,Tryz.ntmps69;go_wp2_with fail;refine KN.out.mono ?_;rintro e w1 ⟨rfl,P1⟩;have P2:=xh (HP.out w1 P1);clear P1;go_wp2_with fail;go_ret2;exact ⟨by first | rfl | simp,P2.out⟩
theorem CI {w:World} {y:Y} {n:Nat} {s:PS} (h:fJ w y n s):
  Calls Tryz.prog 28 #[pp y.pb] w fun e w'=>e= .returned (sp y.x.b)∧w=w':=by
 have p0:=h.p0;clear h;unfold pp sp at *;go_enter Tryz.func28,Tryz.ntmps28;go_wp2_with fail;go_ret;exact ⟨by first | rfl | simp,rfl⟩
end Go.Proofs.YtmonobkginiajaaGreat.Sh
namespace Go.Proofs.YtmonobkginiajaaGreat.Sh
open Go.RowKit Pk Dk Pg
attribute [local go_sem ↓] Go.wp_at_zero Go.wp_at_succ
theorem Gt (f:Fr) (w:World) (b:Bool) (hb:b=decide (f.al<0)):
  Calls Tryz.prog 244 #[f.agg] w fun e w'=>e= .returned (.bool b)∧Below w.heap.size w w':=by
 have O0:=xh ((Below.refl w.heap.size w).alloc (Nat.le_refl _) (.cells #[.int .i64 f.al,.string f.et,.int .i64 f.held,.bool f.bG,.bool f.used] 167));have B0:=ax.new w 167 #[.int .i64 f.al,.string f.et,.int .i64 f.held,.bool f.bG,.bool f.used];have c0:=B0.ab (i:=0) rfl;have HB:=xh hb;clear hb B0;unfold Fr.agg;go_enter Tryz.func244,Tryz.ntmps244;go_wp2_with fail;go_ret;exact ⟨by rw [HB.out]; first | rfl | simp,O0.out⟩
theorem CJ {w:World} (g n c:Nat) (l:List Fr) (h:rp w g l) (hl:l.length=n) (hn:n≤1000000):
  Calls Tryz.prog 220 #[.slice (some ⟨g,0,none⟩) n c,.func (Fn.func 244) #[] #[]] w fun e w'=>e= .returned (.int .i64 (zI (fun f=>decide (f.al<0)) l))∧Below w.heap.size w w':=by
 have HL:=xh hl;have H0:=xh h;clear h hl;go_enter Tryz.func220,Tryz.ntmps220;go_wp2_with fail
 go_loopw [8] (fun iv wr=> ∃i:Nat,i≤n∧iv= .int .i64 i∧Hid (∀(j:Nat) (a:Fr),j<i→l[j]?=some a→decide (a.al<0)=false)∧Hid (Below w.heap.size w wr)) (fun iv _=>n-(intOf iv).toNat)
 case atStart=>exact ⟨0,Nat.zero_le _,rfl,xh (fun j a hj=>absurd hj (Nat.not_lt_zero j)),xh (Below.refl _ _)⟩
 case round=>
  obtain ⟨i,hi,rfl,HA,HB⟩:=hrel
  by_cases h:i<n
  ·have hf:l[i]?=some (l[i]'(by have:=HL.out; omega)):=List.getElem?_eq_getElem _;generalize (l[i]'(by have:=HL.out; omega))=f at hf;obtain ⟨c0,c1,c2,c3,c4⟩:=(H0.out.below HB.out) i f hf;have KF:=xh (Gt f wr _ rfl);have HF:=xh hf;clear hf;unfold Fr.agg at KF;obtain ⟨b,hb⟩: ∃b,decide (f.al<0)=b:=⟨_,rfl⟩;rw [hb] at KF;have HD:=xh hb;clear hb;go_wp2_with fail;refine KF.out.mono ?_;rintro e w1 ⟨rfl,aM⟩;have ER:=xh (ao HB.out aM);clear aM
   cases b with
   | true=>
    have he:=xh (sq (b:=fun f=>decide (f.al<0)) HF.out HD.out HA.out);go_wp2_with fail;go_ret;exact ⟨by rw [he.out]; rfl,ER.out⟩
   | false=>
    go_wp2_with fail;go_roundw
    case rel=>
     refine ⟨i+1,by omega,by go_num,xh (fun j a hj ha=>?_),ER⟩
     rcases Nat.lt_succ_iff_lt_or_eq.1 hj with hj | rfl
     ·exact HA.out j a hj ha
     ·have:=HF.out.symm.trans ha;injection this with this
      subst this;exact HD.out
    case measure=>simp [intOf]; omega
  ·have he:=xh (tr (b:=fun f=>decide (f.al<0)) (l:=l) (fun j a ha=>HA.out j a (by have:=(List.getElem?_eq_some_iff.1 ha).1; have:=HL.out; omega) ha));go_wp2_with fail;go_ret;exact ⟨by rw [he.out]; rfl,HB.out⟩
theorem JJ {w:World} {y:Y} {n q:Nat} {s:PS} (h:fJ w y n s) (hq:w.cell? ⟨q,0,none⟩=some (pp y.pb)) (hqp:q≠y.pb):
  Calls Tryz.prog 245 #[.pointer (some ⟨q,0,none⟩)] w fun e w'=>e= .returned (.pointer (some ⟨y.fg,s.hand*5,none⟩))∧fJ w' y n {s with hand:=(s.hand+1) % s.l.length}∧ag y.fp w w':=by
 have p1:=h.p1;have p2:=h.p2;have l1:=h.l1;have l2:=h.l2;have lh:=h.lh;obtain ⟨m,hm⟩: ∃m,(s.hand+1) % s.l.length=m:=⟨_,rfl⟩;have nj:m<s.l.length:=by rw [←hm]; exact Nat.mod_lt _ (by omega)
 have hmI:((s.hand:Int)+1).tmod (s.l.length:Int)=(m:Int):=by rw [←hm]; rw [show ((s.hand:Int)+1)=((s.hand+1:Nat):Int) from by omega]; exact (Int.ofNat_tmod _ _).symm
 have hlI:(s.hand:Int)<(s.l.length:Int):=by omega
 have m1:IntKind.i64.wrap ((s.hand:Int)+1)=(s.hand:Int)+1:=IntWalk.i64_in _ (by omega);have m2:IntKind.i64.wrap (m:Int)=(m:Int):=IntWalk.i64_in _ (by omega);have vH: ¬s.l=[]:=by intro e; rw [e] at l1; simp at l1
 rw [hm];have HB:=xh (fun w' (hb:Below w.heap.size w w')=>h.below hb);have QB:=xh (fun w' (hb:Below w.heap.size w w')=>(hb.cell (da hq)).trans hq);clear h hm;unfold pp at *;go_enter Tryz.func245,Tryz.ntmps245;go_wp2_with fail;go_quiet (fail);have O1:=xh (cQ (Below.refl w.heap.size w) nq);generalize w.drewN nq=w1 at *;have o0:=HB.out _ O1.out;have od:=o0.drew;have z:=(od.setH m nj).1;have A:=xh (od.setH m nj).2.1
 have OA:=xh ((ag.ak O1.out.drew).trans (od.setH m nj).2.2);have p2d:=od.p2;have HS:=xh (show w1.drew.cell? ⟨q,0,none⟩=some (.pointer (some ⟨y.pb,0,none⟩))∧w1.drew.cell? ⟨y.pb,1,none⟩=some (.slice (some ⟨y.fg,0,none⟩) s.l.length y.cp) from ⟨QB.out _ O1.out.drew,od.p1⟩)
 have zf:=xh (show (w1.drew.setCell ⟨y.pb,2,none⟩ (.int .i64 (m:Nat))).cell? ⟨q,0,none⟩=some (.pointer (some ⟨y.pb,0,none⟩))∧(w1.drew.setCell ⟨y.pb,2,none⟩ (.int .i64 (m:Nat))).cell? ⟨y.pb,1,none⟩=some (.slice (some ⟨y.fg,0,none⟩) s.l.length y.cp) from ⟨by
  have c:=QB.out _ O1.out.drew;have o:=(ag.refl [y.pb] w1.drew).setCell (p:=⟨y.pb,2,none⟩) (by simp) (.int .i64 (m:Nat));exact (o.cell (da c) (by simpa using hqp)).trans c,A.out.p1⟩)
 clear o0 od p1 p2 hq;go_wp2_with fail;refine wp_region_held_drew (S:=fun W'=>W'.cell? ⟨q,0,none⟩=some (.pointer (some ⟨y.pb,0,none⟩))∧W'.cell? ⟨y.pb,1,none⟩=some (.slice (some ⟨y.fg,0,none⟩) s.l.length y.cp)) (by kernel_rfl) (HS.out) (fun aj=>?_);refine bR [(0,12),(1,13),(2,14),(3,15),(6,18),(7,19),(8,20),(9,21),(10,22)] ?_
 iterate 9 (refine zt ?_; try simp only [Act.put,pa,pb,pc])
 refine bS ?_;refine cA (i:=4) (o:=⟨some 16,_,_,_,_,_⟩) fun K hK=>?_;go_simp;refine hK.out _ _ (HS.out) (fun aj=>?_)
 try simp only [Act.put,pa,pb,pc]
 refine bR [(5,17),(11,23),(12,24),(13,25)] ?_
 iterate 4 (refine zt ?_; try simp only [Act.put,pa,pb,pc])
 refine bS ?_;refine cA (i:=14) (o:=⟨none,_,_,_,_,_⟩) fun K hK=>?_;go_simp;refine hK.out _ _ (zf.out) (fun aj=>?_)
 try simp only [Act.put,pa,pb,pc]
 refine wpAnyH_done (by kernel_rfl) ?_ _;go_wp2_with fail;go_ret;exact ⟨by first | rfl | simp,A.out,OA.out⟩
end Go.Proofs.YtmonobkginiajaaGreat.Sh
namespace Go.Proofs.YtmonobkginiajaaGreat.Sh
open Go.RowKit Pk Dk Pg
attribute [local go_sem ↓] Go.wp_at_zero Go.wp_at_succ
def hJ (l:List Fr) (k:Nat):Fr:=(l[k]?).getD Fr.nil
def PS.turn (s:PS):PS:={s with hand:=(s.hand+1) % s.l.length}
def PS.gZ:Nat→PS→PS×Int
 | 0,s=>(s,-1)
 | m+1,s=>
  if 0<(hJ s.l s.hand).held then PS.gZ m s.turn
  else if (hJ s.l s.hand).used=true then PS.gZ m {s.turn with l:=s.l.set s.hand {hJ s.l s.hand with used:=false}}
  else (s.turn,(s.hand:Int))
def PS.aB (s:PS):PS×Int:=
 if 0≤zI (fun f=>decide (f.al<0)) s.l then (s,zI (fun f=>decide (f.al<0)) s.l) else s.gZ (2*s.l.length+1)
theorem jl {l:List Fr} {k:Nat} (h:k<l.length):l[k]?=some (hJ l k):=by unfold hJ; rw [List.getElem?_eq_getElem h]; rfl
theorem tw {w:World} {y:Y} {n:Nat} {s:PS} (h:fJ w y n s):
  Calls Tryz.prog 229 #[pp y.pb] w fun e w'=>e= .returned (.int .i64 s.aB.2)∧fJ w' y n s.aB.1∧ag y.fp w w':=by
 have rW:=h.lt y.pb (by simp [Y.fp]);have O0:=xh (ae (Below.refl w.heap.size w) (.cells #[.pointer (some ⟨y.pb,0,none⟩)] 34));have B0:=xh (ax.new w 34 #[.pointer (some ⟨y.pb,0,none⟩)]);have H0:=xh (h.below O0.out);have KI:=xh (CJ y.fg s.l.length y.cp s.l H0.out.vP rfl (by have:=h.l2; omega));have NP:=xh (show w.heap.size≠y.pb from by omega);have NF:=xh (show w.heap.size∉y.fp from fun hm=>by have:=h.lt _ hm; omega)
 have q0:=B0.out.ab (i:=0) rfl;have p1:=H0.out.p1;have l2:=h.l2;obtain ⟨R,hR⟩: ∃R,s.aB=R:=⟨_,rfl⟩;rw [hR];unfold PS.aB at hR;clear h rW;unfold pp at *
 rcases yn (fun f=>decide (f.al<0)) s.l with e | ⟨k,f,e,hf,_⟩
 ·rw [e,if_neg (by omega)] at hR;rw [e] at KI;obtain ⟨N,hN⟩: ∃N,2*s.l.length+1=N:=⟨_,rfl⟩;have m1:IntKind.i64.wrap (2*(s.l.length:Int))=2*(s.l.length:Int):=IntWalk.i64_in _ (by omega);have m2:IntKind.i64.wrap (2*(s.l.length:Int)+1)=(N:Int):=by rw [IntWalk.i64_in _ (by omega)]; omega
  have hN65:N≤65:=by omega
  rw [hN] at hR;have HN:=xh hN;have HR:=xh hR;clear e hR hN;go_enter Tryz.func229,Tryz.ntmps229;go_wp2_with fail
  go_step3
  go_wp2_with fail;refine KI.out.mono ?_;rintro e w1 ⟨rfl,aM⟩;have O1:=xh (ao O0.out aM);have H1:=xh (H0.out.below aM);have B1:=xh (B0.out.below aM B0.out.lt);have p1':=H1.out.p1;have q1:=B1.out.ab (i:=0) rfl;clear aM p1 q0;go_wp2_with fail
  go_step3
  go_wp2_with fail;clear p1' q1
  go_loopw [5,24] (fun ov iv wr=> ∃(i:Nat) (s':PS),i≤N∧ov= .int .i64 (-1)∧iv= .int .i64 i∧Hid (fJ wr y n s')∧Hid (s'.gZ (N-i)=R)∧Hid (ag y.fp w wr)∧Hid (ax wr w.heap.size 34 #[.pointer (some ⟨y.pb,0,none⟩)])) (fun _ iv _=>N-(intOf iv).toNat)
  case atStart=>exact ⟨0,s,Nat.zero_le _,rfl,rfl,H1,xh (by rw [Nat.sub_zero]; exact HR.out),xh (.ak O1.out),B1⟩
  case round=>
   obtain ⟨i,s',hi,rfl,rfl,HA,HS,HO,HQ⟩:=hrel
   by_cases h:i<N
   ·have KN:=xh (JJ HA.out (HQ.out.ab (i:=0) rfl) NP.out);have q2:=HQ.out.ab (i:=0) rfl;have p2:=HA.out.p2;have hI:(i:Int)<(N:Int):=by omega
    have hf:=jl HA.out.lh;have hS:=HS.out;rw [show N-i=(N-(i+1))+1 from by omega] at hS;unfold PS.gZ at hS;generalize ym:hJ s'.l s'.hand=f at *;have HF:=xh hf;clear hf ym;go_wp2_with fail;refine KN.out.mono ?_;rintro e w2 ⟨rfl,A2,o2⟩;have A2:=xh A2;have o2r:=o2;have o2:=xh (HO.out.trans o2r);obtain ⟨_,_,x2,_,x4⟩:=A2.out.vP s'.hand f HF.out;have HF5:=xh (A2.out.dY s'.hand 4 (by omega) {f with used:=false} (.bool false) HF.out rfl);have z5:=HF5.out.1
    have HQ2:=xh (HQ.out.only o2r NF.out);clear o2r q2 p2
    by_cases h1:0<f.held
    ·rw [if_pos h1] at hS;have HS:=xh hS;clear hS;generalize f.held=fh at *;go_wp2_with fail;go_roundw
     case rel=>exact ⟨i+1,s'.turn,by omega,rfl,by go_num,A2,HS,o2,HQ2⟩
     case measure=>simp [intOf]; omega
    ·rw [if_neg h1] at hS
     by_cases h2:f.used=true
     ·rw [if_pos h2] at hS;rw [h2] at x4;have HS:=xh hS;have A5:=xh HF5.out.2.1;have O5:=xh (o2.out.trans HF5.out.2.2);have HQ5:=xh (HQ2.out.only HF5.out.2.2 NF.out);clear hS h2 HF5;generalize f.held=fh at *;go_wp2_with fail;go_roundw
      case rel=>exact ⟨i+1,_,by omega,rfl,by go_num,A5,HS,O5,HQ5⟩
      case measure=>simp [intOf]; omega
     ·have h3:f.used=false:=by simpa using h2
      rw [if_neg h2] at hS;rw [h3] at x4;subst hS;clear h2 HF5 HS HR;generalize f.held=fh at *;go_wp2_with fail;rw [Exit.noGoto_ret];go_ret;exact ⟨by first | rfl | simp,A2.out,o2.out⟩
   ·have hiN:i=N:=by omega
    subst hiN;have hS:=HS.out;rw [Nat.sub_self] at hS;unfold PS.gZ at hS;subst hS;go_wp2_with fail;rw [Exit.noGoto_ret];go_ret;exact ⟨by first | rfl | simp,HA.out,HO.out⟩
 ·rw [e,if_pos (by omega)] at hR;rw [e] at KI;subst hR;have II:(0:Int)≤(k:Int):=by omega
  clear e hf;go_enter Tryz.func229,Tryz.ntmps229;go_wp2_with fail
  go_step3
  go_wp2_with fail;refine KI.out.mono ?_;rintro e w1 ⟨rfl,aM⟩;have O1:=xh (ao O0.out aM);have H1:=xh (H0.out.below aM);clear aM;go_wp2_with fail;rw [Exit.noGoto_ret];go_ret;exact ⟨by first | rfl | simp,H1.out,.ak O1.out⟩
end Go.Proofs.YtmonobkginiajaaGreat.Sh
namespace Go.Proofs.YtmonobkginiajaaGreat.Sh
open Go.RowKit Pk Dk Pg
attribute [local go_sem ↓] Go.wp_at_zero Go.wp_at_succ
theorem CK {w:World} {y:Y} {n:Nat} {s:PS} (h:fJ w y n s) (k:Nat) {f:Fr} (hf:s.l[k]?=some f) (hd:f.bG=false):
  Calls Tryz.prog 99 #[pp y.pb,.int .i64 (k:Nat)] w fun e w'=>e= .returned (.int .i64 0)∧Below w.heap.size w w':=by
 have hk:k<s.l.length:=(List.getElem?_eq_some_iff.1 hf).1;have p1:=h.p1;have l2:=h.l2;have IF:(k:Int)<(s.l.length:Int):=by omega
 obtain ⟨_,_,_,c3,_⟩:=h.vP k f hf;rw [hd] at c3;have OB:=xh (Below.refl w.heap.size w);clear h hf hd;unfold pp at *;go_enter Tryz.func99,Tryz.ntmps99;go_wp2_with fail;go_ret;exact ⟨by first | rfl | simp,OB.out⟩
end Go.Proofs.YtmonobkginiajaaGreat.Sh
namespace Go.Proofs.YtmonobkginiajaaGreat.Sh
open Go.RowKit Pk Dk Pg
attribute [local go_sem ↓] Go.wp_at_zero Go.wp_at_succ
theorem JK {w:World} {y:Y} {n:Nat} {s:PS} (h:fJ w y n s) (p:Int) (k:Nat) {f:Fr} (hk:findF s.l p=(k:Nat)) (hf:s.l[k]?=some f) (hb: -1000≤f.held∧f.held≤4000000000000):
  Calls Tryz.prog 213 #[pp y.pb,.int .i64 p] w fun e w'=>e= .returned (.tuple #[.string f.et,.int .i64 0])∧fJ w' y n {s with l:=s.l.set k {f with held:=f.held+1,used:=true}}∧ag y.fp w w':=by
 have KF:=xh (fQ h p);rw [hk] at KF;have gw:k<s.l.length:=(List.getElem?_eq_some_iff.1 hf).1;have IF:(k:Int)<(s.l.length:Int):=by omega
 have II:(0:Int)≤(k:Int):=by omega
 have HB:=xh (fun w' (hb:Below w.heap.size w w')=>h.below hb);have m1:IntKind.i64.wrap (f.held+1)=f.held+1:=IntWalk.i64_in _ (by omega);have HF:=xh hf;have HL:=xh h.l2;clear h hk hf hb;unfold pp at *;go_enter Tryz.func213,Tryz.ntmps213;go_wp2_with fail;refine KF.out.mono ?_;rintro e w1 ⟨rfl,aM⟩;have O1:=xh aM;have A1:=HB.out w1 aM;have p1:=A1.p1;have A2:=A1.dY k 2 (by omega) {f with held:=f.held+1} (.int .i64 (f.held+1)) HF.out rfl;obtain ⟨z1,A3,o3⟩:=A2
 have vQ:(s.l.set k {f with held:=f.held+1})[k]?=some {f with held:=f.held+1}:=by rw [List.getElem?_set_self gw]
 obtain ⟨z2,A4,o4⟩:=A3.dY k 4 (by omega) {f with held:=f.held+1,used:=true} (.bool true) vQ rfl;have hf4:((s.l.set k {f with held:=f.held+1}).set k {f with held:=f.held+1,used:=true})[k]?=some {f with held:=f.held+1,used:=true}:=by rw [List.getElem?_set_self (by simpa using gw)]
 obtain ⟨_,x1,_,_,_⟩:=A4.vP k _ hf4;obtain ⟨_,_,y2,_,_⟩:=A1.vP k f HF.out;obtain ⟨_,_,_,_,y4⟩:=A3.vP k _ vQ;simp only [List.set_set] at A4;have AZ:=xh A4;have OZ:=xh ((ag.ak (S:=y.fp) O1.out).trans (o3.trans o4));clear aM A1 A3 A4 o3 o4 vQ hf4;go_wp2_with fail;go_ret2;exact ⟨by first | rfl | simp,AZ.out,OZ.out⟩
theorem JL {w:World} {y:Y} {n:Nat} {s:PS} (h:fJ w y n s) (p:Int) (hk:findF s.l p= -1) (hr:(s.c.aD n p).2≠0):
  Calls Tryz.prog 213 #[pp y.pb,.int .i64 p] w fun e w'=>e= .returned (.tuple #[.string ⟨#[]⟩,.int .i64 (s.c.aD n p).2])∧Below w.heap.size w w':=by
 have KF:=xh (fQ h p);rw [hk] at KF;have HB:=xh (fun w' (hb:Below w.heap.size w w')=>h.below hb);have KR:=xh (fun w' (hb:Below w.heap.size w w')=>kq (h.below hb).hs p);have hq:((s.c.aD n p).2==0)=false:=by rw [beq_eq_false_iff_ne]; exact hr
 have jm:((s.c.aD n p).2 != 0)=true:=by rw [bne_iff_ne]; exact hr
 generalize s.c.aD n p=R at *;clear h hk;unfold pp sp at *;go_enter Tryz.func213,Tryz.ntmps213;go_wp2_with fail;refine KF.out.mono ?_;rintro e w1 ⟨rfl,aM⟩;have O1:=xh aM;have p0:=(HB.out w1 aM).p0;clear aM;go_wp2_with fail;refine (KR.out w1 O1.out).mono ?_;rintro e w2 ⟨rfl,bT⟩;have O2:=xh (ao O1.out bT);clear bT;go_wp2_with fail;go_ret2;exact ⟨by first | rfl | simp,O2.out⟩
theorem Gu {w:World} {y:Y} {n:Nat} {s:PS} (h:fJ w y n s) (p:Int) (hk:findF s.l p= -1) (hr:(s.c.aD n p).2=0) (hv:s.aB.2<0):
  Calls Tryz.prog 213 #[pp y.pb,.int .i64 p] w fun e w'=>e= .returned (.tuple #[.string ⟨#[]⟩,.int .i64 12])∧fJ w' y n s.aB.1∧ag y.fp w w':=by
 have KF:=xh (fQ h p);rw [hk] at KF;have HB:=xh (fun w' (hb:Below w.heap.size w w')=>h.below hb);have KR:=xh (fun w' (hb:Below w.heap.size w w')=>kq (h.below hb).hs p);have KV:=xh (fun w' (hb:Below w.heap.size w w')=>tw (h.below hb));rw [hr] at KR;generalize (s.c.aD n p).1=R at *;generalize s.aB=V at *;clear h hk;unfold pp sp at *;go_enter Tryz.func213,Tryz.ntmps213;go_wp2_with fail;refine KF.out.mono ?_;rintro e w1 ⟨rfl,aM⟩;have O1:=xh aM
 have p0:=(HB.out w1 aM).p0;clear aM;go_wp2_with fail;refine (KR.out w1 O1.out).mono ?_;rintro e w2 ⟨rfl,bT⟩;have O2:=xh (ao O1.out bT);clear bT;go_wp2_with fail;refine (KV.out w2 O2.out).mono ?_;rintro e w3 ⟨rfl,A3,o3⟩;have A3:=xh A3;have o3:=xh ((ag.ak (S:=y.fp) O2.out).trans o3);go_wp2_with fail;go_ret2;exact ⟨by first | rfl | simp,A3.out,o3.out⟩
end Go.Proofs.YtmonobkginiajaaGreat.Sh
namespace Go.Proofs.YtmonobkginiajaaGreat.Sh
open Go.RowKit Pk Dk Pg
attribute [local go_sem ↓] Go.wp_at_zero Go.wp_at_succ
end Go.Proofs.YtmonobkginiajaaGreat.Sh
namespace Go.Proofs.YtmonobkginiajaaGreat.Sh
open Go.RowKit Pk Dk Pg
attribute [local go_sem ↓] Go.wp_at_zero Go.wp_at_succ
theorem fJ.same {w w':World} {y:Y} {n:Nat} {s:PS} {c':C} (h:fJ w y n s) (A:At w' y.x n c') (o:ag y.x.fp w w'):fJ w' y n {s with c:=c'}∧ag y.fp w w':=
 ⟨⟨h.hp.only o h.n1,h.hf.only o (fun g hg=>by simp [ah] at hg; subst hg; exact h.n2),A,h.n1,h.n2,h.l1,h.l2,h.lh⟩,o.mono (fun g hg _=>by simp [Y.fp,hg])⟩
theorem CM {w:World} {y:Y} {n:Nat} {s:PS} (h:fJ w y n s) (p:Int) (k:Nat) {f:Fr} (hk:findF s.l p=(k:Nat)) (hf:s.l[k]?=some f) (hh:0<f.held):
  Calls Tryz.prog 132 #[pp y.pb,.int .i64 p] w fun e w'=>e= .returned (.int .i64 16)∧Below w.heap.size w w':=by
 have KF:=xh (fQ h p);rw [hk] at KF;have HB:=xh (fun w' (hb:Below w.heap.size w w')=>h.below hb);have gw:k<s.l.length:=(List.getElem?_eq_some_iff.1 hf).1;have IF:(k:Int)<(s.l.length:Int):=by omega
 have II:(0:Int)≤(k:Int):=by omega
 have HF:=xh hf;have l2:=h.l2;clear h hk hf;unfold pp at *;go_enter Tryz.func132,Tryz.ntmps132;go_wp2_with fail;refine KF.out.mono ?_;rintro e w1 ⟨rfl,aM⟩;have O1:=xh aM;have A1:=xh (HB.out w1 aM);have p0:=A1.out.p0;have p1:=A1.out.p1;obtain ⟨_,_,c2,_,_⟩:=A1.out.vP k f HF.out;clear aM;go_wp2_with fail;go_ret;exact ⟨by first | rfl | simp,O1.out⟩
theorem Gv {w:World} {y:Y} {n:Nat} {s:PS} (h:fJ w y n s) (p:Int) (hk:findF s.l p= -1):
  Calls Tryz.prog 132 #[pp y.pb,.int .i64 p] w fun e w'=>e= .returned (.int .i64 (s.c.aE p).2)∧fJ w' y n {s with c:=(s.c.aE p).1}∧ag y.fp w w':=by
 have KF:=xh (fQ h p);rw [hk] at KF;have HB:=xh (fun w' (hb:Below w.heap.size w w')=>h.below hb);have KD:=xh (fun w' (hb:Below w.heap.size w w')=>zH (h.below hb).hs p);have HP:=xh (fun w1 (hb:Below w.heap.size w w1) w2 (A:At w2 y.x n (s.c.aE p).1) (o:ag y.x.fp w1 w2)=>(h.below hb).same A o);generalize s.c.aE p=R at *;obtain ⟨R1,R2⟩:=R;dsimp only at *;clear h hk;unfold sp at *;unfold pp at *;go_enter Tryz.func132,Tryz.ntmps132;go_wp2_with fail
 refine KF.out.mono ?_;rintro e w1 ⟨rfl,aM⟩;have O1:=xh aM;have A1:=xh (HB.out w1 aM);have p0:=A1.out.p0;have p1:=A1.out.p1;clear aM;go_wp2_with fail;refine (KD.out w1 O1.out).mono ?_;rintro e w2 ⟨rfl,A2,o2⟩;have A3:=xh (HP.out w1 O1.out w2 A2 o2);clear A2 o2
 by_cases h0:R2=0
 ·subst h0;go_wp2_with fail;go_ret;exact ⟨by first | rfl | (simp; done) | (simp [h0]; done) | simp_all,A3.out.1,(ag.ak (S:=y.fp) O1.out).trans A3.out.2⟩
 ·have hq:(R2 != 0)=true:=by rw [bne_iff_ne]; exact h0
  have jm:(R2==0)=false:=by rw [beq_eq_false_iff_ne]; exact h0
  go_wp2_with fail;go_ret;exact ⟨by first | rfl | (simp; done) | (simp [h0]; done) | simp_all,A3.out.1,(ag.ak (S:=y.fp) O1.out).trans A3.out.2⟩
theorem fJ.setNil {w:World} {y:Y} {n:Nat} {s:PS} (h:fJ w y n s) (k:Nat) {f:Fr} (hf:s.l[k]?=some f):
  w.frozen? ⟨y.fg,k*5,none⟩=false∧w.frozen? ⟨y.fg,k*5+1,none⟩=false∧w.frozen? ⟨y.fg,k*5+2,none⟩=false∧w.frozen? ⟨y.fg,k*5+3,none⟩=false∧w.frozen? ⟨y.fg,k*5+4,none⟩=false∧
  fJ (((((w.setCell ⟨y.fg,k*5,none⟩ (.int .i64 (-1))).setCell ⟨y.fg,k*5+1,none⟩ (.string ⟨#[]⟩)).setCell ⟨y.fg,k*5+2,none⟩ (.int .i64 0)).setCell ⟨y.fg,k*5+3,none⟩ (.bool false)).setCell ⟨y.fg,k*5+4,none⟩ (.bool false)) y n {s with l:=s.l.set k Fr.nil}∧
  ag y.fp w (((((w.setCell ⟨y.fg,k*5,none⟩ (.int .i64 (-1))).setCell ⟨y.fg,k*5+1,none⟩ (.string ⟨#[]⟩)).setCell ⟨y.fg,k*5+2,none⟩ (.int .i64 0)).setCell ⟨y.fg,k*5+3,none⟩ (.bool false)).setCell ⟨y.fg,k*5+4,none⟩ (.bool false)):=by
 have gw:k<s.l.length:=(List.getElem?_eq_some_iff.1 hf).1;obtain ⟨z0,B0,q0⟩:=h.dY k 0 (by omega) {f with al:= -1} (.int .i64 (-1)) hf rfl;rw [Nat.add_zero] at z0 B0 q0;have g0:(s.l.set k {f with al:= -1})[k]?=some {f with al:= -1}:=by rw [List.getElem?_set_self gw]
 obtain ⟨_,B1,q1⟩:=B0.dY k 1 (by omega) {f with al:= -1,et:=⟨#[]⟩} (.string ⟨#[]⟩) g0 rfl;simp only [List.set_set] at B1;have g1:(s.l.set k {f with al:= -1,et:=⟨#[]⟩})[k]?=some {f with al:= -1,et:=⟨#[]⟩}:=by rw [List.getElem?_set_self gw]
 obtain ⟨_,B2,q2⟩:=B1.dY k 2 (by omega) {f with al:= -1,et:=⟨#[]⟩,held:=0} (.int .i64 0) g1 rfl;simp only [List.set_set] at B2;have g2:(s.l.set k {f with al:= -1,et:=⟨#[]⟩,held:=0})[k]?=some {f with al:= -1,et:=⟨#[]⟩,held:=0}:=by rw [List.getElem?_set_self gw]
 obtain ⟨_,B3,q3⟩:=B2.dY k 3 (by omega) {f with al:= -1,et:=⟨#[]⟩,held:=0,bG:=false} (.bool false) g2 rfl;simp only [List.set_set] at B3;have g3:(s.l.set k {f with al:= -1,et:=⟨#[]⟩,held:=0,bG:=false})[k]?=some {f with al:= -1,et:=⟨#[]⟩,held:=0,bG:=false}:=by rw [List.getElem?_set_self gw]
 obtain ⟨_,B4,q4⟩:=B3.dY k 4 (by omega) Fr.nil (.bool false) g3 rfl;simp only [List.set_set] at B4;obtain ⟨rest,B,hr,_,_⟩:=h.hf.oM;have hl:=jJ s.l;have fz: ∀j,j<5→w.frozen? ⟨y.fg,k*5+j,none⟩=false:=fun j hj=>B.frozen _ (by simp; omega);exact ⟨fz 0 (by omega),fz 1 (by omega),fz 2 (by omega),fz 3 (by omega),fz 4 (by omega),B4,(((q0.trans q1).trans q2).trans q3).trans q4⟩
theorem JM {w:World} {y:Y} {n:Nat} {s:PS} (h:fJ w y n s) (p:Int) (k:Nat) {f:Fr} (hk:findF s.l p=(k:Nat)) (hf:s.l[k]?=some f) (hh:f.held=0):
  Calls Tryz.prog 132 #[pp y.pb,.int .i64 p] w fun e w'=>e= .returned (.int .i64 (s.c.aE p).2)∧fJ w' y n (if (s.c.aE p).2=0 then {s with c:=(s.c.aE p).1,l:=s.l.set k Fr.nil} else {s with c:=(s.c.aE p).1})∧ag y.fp w w':=by
 have KF:=xh (fQ h p);rw [hk] at KF;have KE:=xh mI;unfold Fr.nil Fr.agg at KE;have HB:=xh (fun w' (hb:Below w.heap.size w w')=>h.below hb);have gw:k<s.l.length:=(List.getElem?_eq_some_iff.1 hf).1;have IF:(k:Int)<(s.l.length:Int):=by omega
 have II:(0:Int)≤(k:Int):=by omega
 have HF:=xh hf;have KD:=xh (fun w' (hb:Below w.heap.size w w')=>zH (h.below hb).hs p);have HP:=xh (fun w1 (hb:Below w.heap.size w w1) w2 (A:At w2 y.x n (s.c.aE p).1) (o:ag y.x.fp w1 w2)=>(h.below hb).same A o);have l2:=h.l2;generalize s.c.aE p=R at *;obtain ⟨R1,R2⟩:=R;dsimp only at *;clear h hk hf;unfold sp at *
 by_cases h0:R2=0
 ·subst h0;rw [if_pos rfl];unfold pp at *;go_enter Tryz.func132,Tryz.ntmps132;go_wp2_with fail;refine KF.out.mono ?_;rintro e w1 ⟨rfl,aM⟩;have O1:=xh aM;have A1:=xh (HB.out w1 aM);have p0:=A1.out.p0;have p1:=A1.out.p1;obtain ⟨_,_,c2,_,_⟩:=A1.out.vP k f HF.out;rw [hh] at c2;clear aM hh;go_wp2_with fail;refine (KD.out w1 O1.out).mono ?_;rintro e w2 ⟨rfl,A2,o2⟩;have A3:=xh (HP.out w1 O1.out w2 A2 o2);clear A2 o2 p0 p1 c2;have AD:=xh (A3.out.1.drew)
  have OD:=xh ((((ag.refl y.fp w).trans (ag.ak O1.out)).trans A3.out.2).drew);have P1D:=xh AD.out.p1;clear A3;go_wp2_with fail;refine wp_region_held_drew (S:=fun W'=>W'.cell? ⟨y.pb,1,none⟩=some (.slice (some ⟨y.fg,0,none⟩) s.l.length y.cp)) (by kernel_rfl) (P1D.out) (fun aj=>?_);refine bR [(0,39),(1,40),(2,41),(3,42),(4,43)] ?_
  iterate 5 (refine zt ?_; try simp only [Act.put,pa,pb,pc])
  refine bS ?_;refine cA (i:=5) (o:=⟨some 44,_,_,_,_,_⟩) fun K hK=>?_;go_simp
  go_at_call 86
  refine (KE.out _).mono ?_;rintro e w6 ⟨rfl,vI⟩;have A6:=xh (AD.out.below vI);have O6:=xh (OD.out.trans (ag.ak (S:=y.fp) vI));have p1y:=A6.out.p1;clear vI;refine hK.out _ _ (p1y) (fun aj=>?_)
  try simp only [Act.put,pa,pb,pc]
  refine bR [(6,45)] ?_
  iterate 1 (refine zt ?_; try simp only [Act.put,pa,pb,pc])
  refine bS ?_;refine cA (i:=7) (o:=⟨none,_,_,_,_,_⟩) fun K hK=>?_;go_simp;have p1x:=A6.out.p1;have l2x:=A6.out.l2;obtain ⟨c0,c1,c2,c3,c4⟩:=A6.out.vP k f HF.out;obtain ⟨z0,z1,z2,z3,z4,B4,q4⟩:=A6.out.setNil k HF.out;have AZ:=xh B4;have OZ:=xh (O6.out.trans q4);clear B4 q4;go_simp;refine hK.out _ _ (by have:=AZ.out.p1; simpa using this) (fun aj=>?_)
  try simp only [Act.put,pa,pb,pc]
  refine wpAnyH_done (by kernel_rfl) ?_ _;go_wp2_with fail;go_ret;exact ⟨by first | rfl | simp,AZ.out,OZ.out⟩
 ·have hq:(R2 != 0)=true:=by rw [bne_iff_ne]; exact h0
  have jm:(R2==0)=false:=by rw [beq_eq_false_iff_ne]; exact h0
  rw [if_neg h0];unfold pp at *;go_enter Tryz.func132,Tryz.ntmps132;go_wp2_with fail;refine KF.out.mono ?_;rintro e w1 ⟨rfl,aM⟩;have O1:=xh aM;have A1:=xh (HB.out w1 aM);have p0:=A1.out.p0;have p1:=A1.out.p1;obtain ⟨_,_,c2,_,_⟩:=A1.out.vP k f HF.out;rw [hh] at c2;clear aM hh;go_wp2_with fail;refine (KD.out w1 O1.out).mono ?_;rintro e w2 ⟨rfl,A2,o2⟩;have A3:=xh (HP.out w1 O1.out w2 A2 o2);clear A2 o2;go_wp2_with fail;go_ret
  exact ⟨by first | rfl | simp,A3.out.1,(ag.ak (S:=y.fp) O1.out).trans A3.out.2⟩
end Go.Proofs.YtmonobkginiajaaGreat.Sh
