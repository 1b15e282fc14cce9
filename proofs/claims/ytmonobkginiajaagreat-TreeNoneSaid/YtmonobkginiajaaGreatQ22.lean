/- packed. -/
import Derived.Test.YtmonobkginiajaaGreatQ21
import Derived.WalkMore
set_option linter.all false
set_option maxRecDepth 100000
set_option maxHeartbeats 8000000
namespace Go.Proofs.YtmonobkginiajaaGreat.Sh
open Go.RowKit Pk Dk Pg
open Nd (E aw aT aF aJ cM bg aK bI)
attribute [local go_sem ↓] Go.wp_at_zero Go.wp_at_succ aX
structure Step where
 al:Int
 leaf:Bool
 l:List E
 at_:Nat
structure SM where
 s:Step
 A:Option Addr
 c:Nat
def SM.v (x:SM):Value:= .slice x.A x.s.l.length x.c
def SM.cells (x:SM):List Value:=[.int .i64 x.s.al,.bool x.s.leaf,x.v,.int .i64 (x.s.at_:Nat)]
structure aC (w:World) (b:Nat) (v:Value) (L:List SM):Prop where
 s:aG w 120 4 v L.length (L.flatMap SM.cells)
 f: ∀g∈ah v,b≤g
 e: ∀x∈L,aG w 111 3 x.v x.s.l.length (aw x.s.l)∧ ∀g∈ah x.v,b≤g
 d:L.Pairwise fun x y=> ∀g∈ah x.v,g∉ah y.v
section
variable {w w':World} {b:Nat} {v:Value} {L:List SM} {S:List Nat}
theorem aC.only (h:aC w b v L) (o:ag S w w') (hs: ∀g∈S,g<b):aC w' b v L:=
 ⟨h.s.only o (fun g hg hm=>by have:=h.f g hg; have:=hs g hm; omega),h.f,fun x hx=>⟨(h.e x hx).1.only o (fun g hg hm=>by have:=(h.e x hx).2 g hg; have:=hs g hm; omega),(h.e x hx).2⟩,h.d⟩
theorem aC.below (h:aC w b v L) (hb:Below w.heap.size w w'):aC w' b v L:=h.only (S:=[]) (.ak hb) (by simp)
theorem aC.nil (w:World) (b:Nat):aC w b (.slice none 0 0) []:=⟨aG.nil _ _ _,by simp [ah],by simp,List.Pairwise.nil⟩
end
def Fo:Value→Nat
 | .slice _ n _=>n
 | _=>0
def kG (key:ByteArray):Nat→QS→Int→List Step→QS×List Step×Int
 | 0,q,_,_=>(q,[],14)
 | m+1,q,p,out=>
  if (q.bl p).2.2.2≠0 then ((q.bl p).1,[],(q.bl p).2.2.2)
  else if (q.bl p).2.1=true then ((q.bl p).1,out++[⟨p,true,(q.bl p).2.2.1,0⟩],0)
  else if (q.bl p).2.2.1=[] then ((q.bl p).1,[],14)
  else kG key m (q.bl p).1 ((q.bl p).2.2.1.getD (bg (q.bl p).2.2.1 key) Nd.E.zero).aH (out++[⟨p,false,(q.bl p).2.2.1,bg (q.bl p).2.2.1 key⟩])
def QS.dq (q:QS) (key:ByteArray):QS×List Step×Int:=kG key 16 q 0 []
theorem qS {l:List E} (h:l≠[]) (key:ByteArray):bg l key<l.length:=by
 have hl:0<l.length:=List.length_pos_iff.2 h;unfold bg;have hle:aK l key≤l.length:=List.findIdx_le_length
 split
 ·rename_i hh;unfold bI at hh
  cases hx:l[aK l key]? with
  | none=>rw [hx] at hh; cases hh
  | some e=>exact (List.getElem?_eq_some_iff.1 hx).1
 ·omega
theorem jA (q:QS) (p:Int):(q.bl p).2.2.1.length≤57:=by
 unfold QS.bl
 split
 ·exact Nat.zero_le _
 ·exact Nd.AM _
theorem mZ {e:Int}:r5 e=0↔e=0:=by unfold r5; split<;>omega
theorem qT {q:QS} {p:Int} (h:(q.bl p).2.2.2=0):cM (q.bl p).2.2.1 (q.bl p).2.1:=by
 unfold QS.bl at h ⊢
 split at h
 ·rename_i h2;exact absurd (mZ.1 h) h2
 ·rename_i h2;rw [if_neg h2];exact Nd.rL (mZ.1 h)
theorem lu (w:World) (o:Obj):(w.alloc o).heap.size=w.heap.size+1:=by simp
theorem dE: ∀L:List SM,(L.flatMap SM.cells).length=L.length*4
 | []=>rfl
 | x::L=>by rw [List.flatMap_cons,List.length_append,dE L]; simp [SM.cells]; omega
theorem m7: ∀{L:List SM} {k:Nat} {x:SM},L[k]?=some x→ ∀j,j<4→(L.flatMap SM.cells)[k*4+j]?=x.cells[j]?
 | [],_,_,h,_,_=>by simp at h
 | y::L,0,x,h,j,hj=>by
  simp only [List.getElem?_cons_zero,Option.some.injEq] at h;subst h;rw [List.flatMap_cons,List.getElem?_append_left (by simp [SM.cells]; omega),Nat.zero_mul,Nat.zero_add]
 | y::L,k+1,x,h,j,hj=>by
  rw [List.getElem?_cons_succ] at h;rw [List.flatMap_cons,List.getElem?_append_right (by simp [SM.cells]; omega),show (k+1)*4+j-y.cells.length=k*4+j by simp [SM.cells]; omega];exact m7 h j hj
theorem Hk:(Tryz.prog.info? 120).map (fun i=>(i.zero,i.size,i.bytes))=some (some (.agg #[.int .i64 0,.bool false,.slice none 0 0,.int .i64 0]),4,48):=by kernel_rfl
theorem uK {w:World} {v:Value} {m:Nat} {L:List Value} (S:aG w 120 4 v m L) (cs:List Value) (hcs:cs.length=4) (h1: ∀u∈cs,u.oneCell'=true) (hm:m≤100):
  ∃v' w',dI Tryz.prog 114 114 (w.alloc (.cells cs.toArray 120)) v (.slice (some ⟨w.heap.size,0,none⟩) 1 1)= .ok v' w'∧aG w' 120 4 v' (m+1) (L++cs)∧ag (ah v) w w'∧(∀g∈ah v',g∈ah v∨w.heap.size≤g):=by
 obtain ⟨i0,hi,iL,gM,iw⟩:=info_parts Hk;obtain ⟨v',w',h1,h2,h3,h4⟩:=cN (P:=Tryz.prog) (S.alloc (.cells cs.toArray 120)) 114 114 i0 _ 48 Tryz.underlying114 hi iL gM iw rfl (by omega)
  ⟨w.heap.size,0,none⟩ 1 1 cs (by rw [hcs]) (aV (ax.new w 120 cs.toArray) 0 _ (by simp)) h1 (by unfold maxLen; omega) (by omega)
 exact ⟨v',w',h1,h2,((ag.refl _ _).alloc _).aS h3 (fun x hx _=>hx),fun g hg=>(h4 g hg).imp id (fun h=>by simp at h; omega)⟩
theorem aC.push {w w':World} {b:Nat} {v v':Value} {L:List SM} (h:aC w b v L) (x:SM) (S':aG w' 120 4 v' (L.length+1) (L.flatMap SM.cells++x.cells)) (o:ag (ah v) w w') (f: ∀g∈ah v',g∈ah v∨w.heap.size≤g) (hb:b≤w.heap.size)
  (hx:aG w 111 3 x.v x.s.l.length (aw x.s.l)) (hf: ∀g∈ah x.v,b≤g) (hn: ∀y∈L,∀g∈ah y.v,g∉ah x.v):aC w' b v' (L++[x]):=by
 have ni: ∀y:SM,aG w 111 3 y.v y.s.l.length (aw y.s.l)→aG w' 111 3 y.v y.s.l.length (aw y.s.l):=fun y hy=>hy.only o (fo hy h.s (by decide));refine ⟨by rw [List.length_append,List.flatMap_append]; simpa using S',fun g hg=>(f g hg).elim (h.f g) (fun h=>by omega),fun y hy=>?_,?_⟩
 ·rcases List.mem_append.1 hy with hy | hy
  ·exact ⟨ni y (h.e y hy).1,(h.e y hy).2⟩
  ·rw [List.mem_singleton.1 hy];exact ⟨ni x hx,hf⟩
 ·rw [List.pairwise_append];exact ⟨h.d,List.pairwise_singleton _ _,fun y hy z hz=>by rw [List.mem_singleton.1 hz]; exact hn y hy⟩
theorem uL {w:World} {tb:Nat} {I:Ix} {F:List Nat} {q:QS} {n K:Nat} (h:TQ w tb I F q n K) (hK:K≤999999999900) (key:ByteArray):
  Calls Tryz.prog 63 #[tp tb,.string key] w fun e w'=> ∃v L,e= .returned (.tuple #[v,.int .i64 (q.dq key).2.2])∧aC w' w.heap.size v L∧L.map SM.s=(q.dq key).2.1∧PQ w' I F (q.dq key).1 n (K+16)∧ag F w w':=by
 have KR:=xh (fun (W:World) (qj:QS) (kj:Nat) (hW:TQ W tb I F qj n kj) (hk:kj≤999999999999) (p:Int)=>kF hW hk p);have HT:=xh h;have nB:=xh h.lt;have HNE:=xh h.ne;obtain ⟨R,hR⟩: ∃R,q.dq key=R:=⟨_,rfl⟩;rw [hR];unfold QS.dq at hR;have HR:=xh hR;clear h hR;unfold tp aT at *;go_enter Tryz.func63,Tryz.ntmps63;go_wp2_with fail
 go_step3
 go_wp2_with fail
 go_step3
 go_wp2_with fail
 go_loopw [6,7] (fun ov pv wr=> ∃(i:Nat) (L:List SM) (p:Int) (qi:QS),i≤16∧L.length=i∧pv= .int .i64 p∧aG wr 120 4 ov i (L.flatMap SM.cells)∧(∀x∈L,x.s.leaf=false)∧Hid (kG key (16-i) qi p (L.map SM.s)=R)∧Hid (aC wr w.heap.size ov L∧TQ wr tb I F qi n (K+i)∧ag F w wr)) (fun ov _ _=>16-Fo ov)
 case atStart=>exact ⟨0,[],0,q,by omega,rfl,rfl,aG.nil _ _ _,by simp,HR,xh ⟨.nil _ _,HT.out,ag.refl _ _⟩⟩
 case round=>
  obtain ⟨i,L,p,qi,hi,hl,rfl,S1,nS,HW,HA⟩:=hrel;obtain ⟨VA,vc,rfl⟩:=aq S1
  by_cases h16:i<16
  ·have h16I:(i:Int)<16:=by omega
   have K1:=xh (KR.out wr qi (K+i) HA.out.2.1 (by omega) p);have mo:=qT (q:=qi) (p:=p);have hlen:=jA qi p;have HW:=HW.out;rw [show 16-i=(16-(i+1))+1 by omega] at HW;unfold kG at HW;generalize qi.bl p=r at *;obtain ⟨q1,leaf,l,er⟩:=r;dsimp only at *;have HW:=xh HW;have DS:=xh nS;have HL:=xh hl;clear hl nS S1;go_wp2_with fail;refine K1.out.mono ?_;rintro e w2 ⟨A,c,rfl,S2,f2,P2,o2⟩
   have H2:=xh (show aC w2 w.heap.size (.slice VA i vc) L∧TQ w2 tb I F q1 n (K+(i+1))∧ag F w w2∧aG w2 111 3 (.slice A l.length c) l.length (aw l)∧(∀g∈ah (.slice A l.length c),wr.heap.size≤g)∧wr.heap.size≤w2.heap.size from
    ⟨HA.out.1.only o2 (fun g hg=>nB.out g (List.mem_cons_of_mem _ hg)),HA.out.2.1.next o2 P2,HA.out.2.2.trans o2,S2,f2,o2.size⟩)
   have HX:=xh (show ∀y∈L,∀g∈ah y.v,g∉ah (.slice A l.length c) from fun y hy g hg hm=>by have h1:=f2 g hm; have h2:=((HA.out.1.e y hy).1).lt g hg; omega);clear S2 f2 P2 o2;have b3:=ax.new w2 118 #[.bool leaf,.slice A l.length c];have eG:=ae (Below.refl w2.heap.size w2) (.cells #[.bool leaf,.slice A l.length c] 118)
   by_cases he:er=0
   ·subst he;have HM:=xh (mo rfl);clear mo;have b4:=ax.new (w2.alloc (.cells #[.bool leaf,.slice A l.length c] 118)) 120 #[.int .i64 p,.bool leaf,.slice A l.length c,.int .i64 0];have b34:=b3.alloc (.cells #[.int .i64 p,.bool leaf,.slice A l.length c,.int .i64 0] 120);rw [lu] at b4;have fM:=ae eG (.cells #[.int .i64 p,.bool leaf,.slice A l.length c,.int .i64 0] 120);have m0:=b3.ab (i:=0) rfl;have m1:=b3.ab (i:=1) rfl;have n0:=b34.ab (i:=0) rfl
    have n1:=b34.ab (i:=1) rfl;have k0:=b4.ab (i:=0) rfl;have k1:=b4.ab (i:=1) rfl;have k2:=b4.ab (i:=2) rfl;have k3:=b4.ab (i:=3) rfl;have H4:=xh (And.intro b34 (And.intro b4 fM))
    cases leaf
    ·have HW:=HW.out;rw [if_neg (by simp),if_neg (by simp)] at HW
     by_cases h0:l=[]
     ·rw [if_pos h0] at HW;subst HW;have h0l:l.length=0:=by rw [h0]; rfl
      have H5:=xh (show PQ _ I F q1 n (K+(i+1))∧ag F w _ from ⟨H2.out.2.1.2.below fM,H2.out.2.2.1.trans (.ak fM)⟩);rw [h0l] at H5;clear b3 b4 b34 eG fM h0;go_wp2_with fail;rw [Exit.noGoto_ret];go_ret2;exact ⟨.slice none 0 0,[],by first | rfl | simp,.nil _ _,rfl,H5.out.1.le (by omega),H5.out.2⟩
     ·rw [if_neg h0] at HW;have HW:=xh HW;have su:=qS h0 key;have KB:=xh (Nd.uH false A l.length c l key (Nd.aG.aw (H2.out.2.2.2.1.below fM)).2 (by omega) HM.out);unfold aT at KB;obtain ⟨ex,hex⟩: ∃ex,l[bg l key]?=some ex:=⟨_,List.getElem?_eq_getElem su⟩;have hfar:(l.getD (bg l key) Nd.E.zero).aH=ex.aH:=by rw [List.getD_eq_getElem?_getD,hex]; rfl
      have HFAR:=xh hfar;have HBL:=xh su;generalize bg l key=at_ at *;have EJ: ¬l.length=0:=by omega
      have hl1:((l.length:Nat):Int)≠0:=by omega
      go_wp2_with fail;refine KB.out.mono ?_;rintro e w5 ⟨rfl,ko⟩;have N5:=xh (H4.out.1.below ko H4.out.1.lt);have B5:=xh (H4.out.2.1.below ko H4.out.2.1.lt);have O5:=xh (ao H4.out.2.2 ko);have v3:=B5.out.ab (i:=3) rfl;have z3:=B5.out.frozen 3 (by simp);have B6:=xh (B5.out.bq 3 (.int .i64 (at_:Nat)));have N6:=xh (N5.out.aH (p:=⟨w2.heap.size+1,3,none⟩) (by show w2.heap.size≠w2.heap.size+1; omega) (.int .i64 (at_:Nat)))
      have O6:=xh (show Below w2.heap.size w2 (w5.setCell ⟨w2.heap.size+1,3,none⟩ (.int .i64 (at_:Nat))) from ((ag.ak (S:=[w2.heap.size+1]) O5.out).trans ((ag.refl _ _).setCell (by simp) _)).ay (Nat.le_refl _) (fun x hx=>by simp at hx; omega));have SA:=H2.out.1.below O6.out;have hvlt: ∀g∈ah (.slice VA i vc),g<w2.heap.size:=H2.out.1.s.lt
      obtain ⟨v',w7,ea,S7,oa,fa⟩:=uK SA.s [.int .i64 p,.bool false,.slice A l.length c,.int .i64 (at_:Nat)] rfl (by simp; exact ⟨rfl,rfl,rfl,rfl⟩) (by rw [HL.out]; omega);rw [HL.out] at S7;have H7:=xh (show aC w7 w.heap.size v' (L++[⟨⟨p,false,l,at_⟩,A,c⟩])∧TQ w7 tb I F q1 n (K+(i+1))∧ag F w w7 from
       ⟨SA.push ⟨⟨p,false,l,at_⟩,A,c⟩ (by rw [HL.out]; exact S7) oa (fun g hg=>(fa g hg).imp id (fun h=>h)) (by have:=H2.out.2.2.1.size; have:=O6.out.size; omega) (H2.out.2.2.2.1.below O6.out) (fun g hg=>Nat.le_trans HA.out.2.2.size (H2.out.2.2.2.2.1 g hg)) HX.out,
        (H2.out.2.1.below O6.out).only oa (fun g hF hg=>by have:=SA.f g hg; have:=nB.out g hF; omega),
        (H2.out.2.2.1.trans (.ak O6.out)).aS oa (fun g hg dL=>by have:=SA.f g hg; omega)⟩)
      have u1:=B6.out.ab (i:=0) rfl;have u2:=B6.out.ab (i:=1) rfl;have u3:=B6.out.ab (i:=2) rfl;have u4':=B6.out.ab (i:=3) rfl;have y1:=(N6.out.only oa (fun hg=>by have:=hvlt _ hg; omega)).ab (i:=1) rfl;have y3:=(B6.out.only oa (fun hg=>by have:=hvlt _ hg; omega)).ab (i:=3) rfl;obtain ⟨ga,ca,uM,wO,BA,_,_⟩:=(H2.out.2.2.2.1.below O6.out).form (by omega) (by omega);have SE:=(Nd.aG.aw (H7.out.1.e ⟨⟨p,false,l,at_⟩,A,c⟩ (by simp)).1).2
      obtain ⟨ad,qU,eM⟩:=SE.2 at_ ex hex;injection wO with e1 e2 e3
      subst e1 e3;injection qU with qU
      subst qU;rw [Nd.eX,Nat.zero_add] at eM;have xf:=eM.c2;dsimp only at xf;rw [show (w5.setCell ⟨w2.heap.size+1,3,none⟩ (.int .i64 (at_:Nat))).heap.size=w5.heap.size from by simp] at ea;have EA:=xh ea;obtain ⟨g7,c7,rest7,rfl,B7,hc7,hr7⟩:=S7.form (by omega) (by omega);have S7:=xh (show aG w7 120 4 (.slice (some ⟨g7,0,none⟩) (i+1) c7) (i+1) ((L++[(⟨⟨p,false,l,at_⟩,some ⟨ga,0,none⟩,c⟩:SM)]).flatMap SM.cells) from by rw [List.flatMap_append]; simpa [SM.cells,SM.v] using S7)
      have hatI:(at_:Int)<(l.length:Int):=by have:=HBL.out; omega
      clear ea oa fa SA BA SE eM B7 hr7 b3 b4 b34 eG fM ko hex;go_wp2_with fail;rw [EA.out];go_wp2_with fail;have HW:=HW.out;rw [HFAR.out] at HW;go_roundw
      case rel=>exact ⟨i+1,L++[⟨⟨p,false,l,at_⟩,some ⟨ga,0,none⟩,c⟩],ex.aH,q1,by omega,by rw [List.length_append,HL.out]; rfl,rfl,S7.out,fun x hx=>(List.mem_append.1 hx).elim (DS.out x) (fun h=>by rw [List.mem_singleton.1 h]),xh (by rw [List.map_append]; exact HW),H7⟩
      case measure=>simp [Fo]; omega
    ·have HW:=HW.out;rw [if_neg (by simp),if_pos rfl] at HW;subst HW;have SA:=H2.out.1.below fM;obtain ⟨v',w5,ea,S5,oa,fa⟩:=uK SA.s [.int .i64 p,.bool true,.slice A l.length c,.int .i64 0] rfl (by simp; exact ⟨rfl,rfl,rfl,rfl⟩) (by rw [HL.out]; omega);rw [HL.out] at S5;rw [lu,lu] at ea;have H5:=xh (show aC w5 w.heap.size v' (L++[⟨⟨p,true,l,0⟩,A,c⟩])∧PQ w5 I F q1 n (K+(i+1))∧ag F w w5 from
      ⟨SA.push ⟨⟨p,true,l,0⟩,A,c⟩ (by rw [HL.out]; exact S5) oa (fun g hg=>(fa g hg).imp id (fun h=>h)) (by have:=H2.out.2.2.1.size; have:=fM.size; omega) (H2.out.2.2.2.1.below fM) (fun g hg=>Nat.le_trans HA.out.2.2.size (H2.out.2.2.2.2.1 g hg)) HX.out,
       (H2.out.2.1.2.below fM).only oa (fun g hF hg=>by have:=SA.f g hg; have:=nB.out g (List.mem_cons_of_mem _ hF); omega),
       (H2.out.2.2.1.trans (.ak fM)).aS oa (fun g hg dL=>by have:=SA.f g hg; omega)⟩)
     obtain ⟨g5,c5,rest5,rfl,B5,hc5,hr5⟩:=S5.form (by omega) (by omega);have x5:w5.cell? ⟨g5,i*4+1,none⟩=some (.bool true):=B5.ab (by
      rw [List.getElem?_toArray,List.append_assoc,List.getElem?_append_right (by rw [dE,HL.out]; omega),dE,HL.out,show i*4+1-i*4=1 by omega];rfl)
     have EA:=xh ea;have w1':IntKind.i64.wrap (((i+1:Nat):Int)-1)=(i:Int):=by rw [show ((i+1:Nat):Int)-1=(i:Int) by omega]; exact IntWalk.i64_in _ (by omega)
     have w2':(i:Int)<((i+1:Nat):Int):=by omega
     clear ea S5 oa fa B5 SA b3 b4 b34 eG fM hr5;go_wp2_with fail;rw [EA.out];go_wp2_with fail;rw [Exit.noGoto_ret];go_ret2;exact ⟨_,_,by first | rfl | simp,H5.out.1,by rw [List.map_append]; rfl,H5.out.2.1.le (by omega),H5.out.2.2⟩
   ·have hq:(er != 0)=true:=by rw [bne_iff_ne]; exact he
    have jm:(er==0)=false:=by rw [beq_eq_false_iff_ne]; exact he
    have HW:=HW.out;rw [if_pos he] at HW;subst HW;have H3:=xh (show PQ (w2.alloc (.cells #[.bool leaf,.slice A l.length c] 118)) I F q1 n (K+(i+1))∧ag F w (w2.alloc (.cells #[.bool leaf,.slice A l.length c] 118)) from ⟨H2.out.2.1.2.below eG,H2.out.2.2.1.trans (.ak eG)⟩);clear b3 eG mo;go_wp2_with fail;rw [Exit.noGoto_ret];go_ret2;exact ⟨.slice none 0 0,[],by first | rfl | simp,.nil _ _,rfl,H3.out.1.le (by omega),H3.out.2⟩
  ·obtain rfl:i=16:=by omega
   have HW:=HW.out;rw [show 16-16=0 by omega] at HW;unfold kG at HW;subst HW;obtain ⟨g5,c5,rest5,hv,B5,hc5,hr5⟩:=S1.form (by omega) (by omega);injection hv with e1 e2 e3
   subst e1 e3;obtain ⟨x,hx⟩: ∃x,L[15]?=some x:=⟨_,List.getElem?_eq_getElem (by omega)⟩;have ET:=nS x (List.mem_of_getElem? hx);have x5:wr.cell? ⟨g5,61,none⟩=some (.bool false):=B5.ab (by
    rw [List.getElem?_toArray,List.getElem?_append_left (by rw [dE,hl]; omega),show 61=15*4+1 from rfl,m7 hx 1 (by omega),←ET];rfl)
   clear B5 hr5 S1 nS hl hx ET;go_wp2_with fail;go_ret2;exact ⟨.slice none 0 0,by first | rfl | simp,[],.nil _ _,rfl,HA.out.2.1.2,HA.out.2.2⟩
end Go.Proofs.YtmonobkginiajaaGreat.Sh
namespace Go.Proofs.YtmonobkginiajaaGreat.Sh
open Go.RowKit Pk Dk Pg
open Nd (E aw aT aF aJ cM bg aK bI)
attribute [local go_sem ↓] Go.wp_at_zero Go.wp_at_succ
def QS.fS (q:QS) (x:E):QS×ByteArray×Int:=if x.aH<0 then (q,x.val,0) else ((q.dC x.aH).1,⟨(q.dC x.aH).2.2.1.toArray⟩,r5 (q.dC x.aH).2.2.2)
def QS.mq (q:QS) (x:E):QS×Int:=if x.aH<0 then (q,0) else ((q.l5 x.aH).1,r5 (q.l5 x.aH).2)
def QS.gm (q:QS) (key value:ByteArray):QS×E×Int:=if value.size≤40 then (q,⟨key,value,-1⟩,0) else ((q.l6 value.data.toList).1,⟨key,⟨#[]⟩,(q.l6 value.data.toList).2.1⟩,(q.l6 value.data.toList).2.2)
def qV (s:Step):Prop:=cM s.l s.leaf∧s.l.length≤57∧(s.leaf=false→s.at_<s.l.length)
theorem AV (key:ByteArray): ∀(m:Nat) (q:QS) (p:Int) (out:List Step),(kG key m q p out).2.2=0→ ∃pre x,(kG key m q p out).2.1=out++(pre++[x])∧x.leaf=true∧(∀s∈pre,s.leaf=false)∧(∀s∈pre++[x],qV s)∧pre.length<m
 | 0,_,_,_,h=>absurd h (by show (14:Int)≠0; decide)
 | m+1,q,p,out,h=>by
  have hl:=jA q p;unfold kG at h ⊢
  split at h
  ·rename_i h1; exact absurd h h1
  ·rename_i h1;have hm:=qT (q:=q) (p:=p) (by simpa using h1);rw [if_neg h1]
   split at h
   ·rename_i h2;rw [if_pos h2];refine ⟨[],⟨p,true,(q.bl p).2.2.1,0⟩,rfl,rfl,by simp,fun s hs=>?_,by simp⟩;simp at hs;subst hs;rw [h2] at hm;exact ⟨hm,hl,fun h=>by cases h⟩
   ·rename_i h2;rw [if_neg h2]
    split at h
    ·exact absurd h (by show (14:Int)≠0; decide)
    ·rename_i h3;rw [if_neg h3];obtain ⟨pre,x,e1,e2,e3,e4,e5⟩:=AV key m _ _ _ h;have h2:(q.bl p).2.1=false:=by simpa using h2
     refine ⟨⟨p,false,(q.bl p).2.2.1,bg (q.bl p).2.2.1 key⟩::pre,x,?_,e2,fun s hs=>?_,fun s hs=>?_,by simp; omega⟩
     ·rw [e1]; simp
     ·rcases List.mem_cons.1 hs with rfl | hs
      ·rfl
      ·exact e3 s hs
     ·rcases List.mem_cons.1 hs with rfl | hs
      ·rw [h2] at hm;exact ⟨hm,hl,fun _=>qS h3 key⟩
      ·exact e4 s hs
theorem D8 {q:QS} {key:ByteArray} (h:(q.dq key).2.2=0): ∃pre x,(q.dq key).2.1=pre++[x]∧x.leaf=true∧(∀s∈pre,s.leaf=false)∧(∀s∈pre++[x],qV s)∧pre.length<16:=by
 obtain ⟨pre,x,e1,e2⟩:=AV key 16 q 0 [] h;exact ⟨pre,x,e1,e2⟩
theorem TQ.drew {w:World} {tb:Nat} {I:Ix} {F:List Nat} {q:QS} {n K:Nat} (h:TQ w tb I F q n K):TQ w.drew tb I F q n K:=⟨h.1.drew,h.2.drew⟩
theorem uN {w:World} {tb:Nat} {I:Ix} {F:List Nat} {q:QS} {n K:Nat} (h:TQ w tb I F q n K) (hK:K≤999999999900) (x:E):
  Calls Tryz.prog 62 #[tp tb,x.agg] w fun e w'=>e= .returned (.tuple #[.string (q.fS x).2.1,.int .i64 (q.fS x).2.2])∧PQ w' I F (q.fS x).1 n (K+5)∧ag F w w':=by
 have O0:=xh (ae (Below.refl w.heap.size w) (.cells #[.string x.key,.string x.val,.int .i64 x.aH] 111));have B0:=xh (ax.new w 111 #[.string x.key,.string x.val,.int .i64 x.aH]);have T0:=xh (h.below O0.out);have x1:=B0.out.ab (i:=1) rfl;have x2:=B0.out.ab (i:=2) rfl;have p0:=T0.out.1.ab (i:=0) rfl;have S0:=xh (And.intro p0 x2);have NB:=xh (show w.heap.size∉F from fun hm=>by have:=h.2.lt _ hm; omega)
 have KW:=xh (fun (W:World) (hW:TQ W tb I F q n K)=>Ld hW.2 hK x.aH);have KB:=xh uI;unfold QS.fS;generalize q.dC x.aH=R at *;obtain ⟨q1,l1,b1,e1⟩:=R;dsimp only at *;clear h;unfold tp E.agg at *;unfold pp at KW p0 S0
 by_cases hf:x.aH<0
 ·rw [if_pos hf];go_enter Tryz.func62,Tryz.ntmps62;go_wp2_with fail;go_ret2;exact ⟨by first | rfl | simp,T0.out.2.le (by omega),.ak O0.out⟩
 ·rw [if_neg hf];go_enter Tryz.func62,Tryz.ntmps62;go_wp2_with fail;clear p0 x1 x2;refine wp_region_held_drew (S:=fun W=>W.cell? ⟨tb,0,none⟩=some (.pointer (some ⟨I.pb,0,none⟩))∧W.cell? ⟨w.heap.size,2,none⟩=some (.int .i64 x.aH)) (by kernel_rfl) (S0.out) (fun aj=>?_);refine bR [(0,14),(1,15),(2,16),(3,17),(4,18),(5,19)] ?_
  iterate 6 (refine zt ?_; try simp only [Act.put,pa,pb,pc])
  refine bS ?_;refine cA (i:=6) (o:=⟨some 20,_,_,_,_,_⟩) fun K hK=>?_;go_simp
  go_at_call 111
  refine (KW.out _ (T0.out.drew)).mono ?_;rintro e w2 ⟨rfl,P2,o2⟩;have P2:=xh P2;have O2:=xh ((ag.ak O0.out).drew.trans o2);have S2:=xh (And.intro ((T0.out.drew.next o2 P2.out).1.ab (i:=0) rfl) ((B0.out.drew.only o2 NB.out).ab (i:=2) rfl));clear o2;go_simp;refine hK.out _ _ (S2.out) (fun aj=>?_)
  try simp only [Act.put,pa,pb,pc]
  refine bR [(7,13),(8,21),(9,22),(10,6),(11,7)] ?_
  iterate 5 (refine zt ?_; try simp only [Act.put,pa,pb,pc])
  refine bS ?_;refine wpAnyH_done (by kernel_rfl) ?_ _;go_wp2_with fail;refine (KB.out _ _).mono ?_;rintro e w3 ⟨rfl,rfl⟩;go_wp2_with fail;go_ret2;exact ⟨by first | rfl | simp,P2.out,O2.out⟩
theorem xy {w:World} {tb:Nat} {I:Ix} {F:List Nat} {q:QS} {n K:Nat} (h:TQ w tb I F q n K) (hK:K≤999999999900) (x:E):
  Calls Tryz.prog 71 #[tp tb,x.agg] w fun e w'=>e= .returned (.int .i64 (q.mq x).2)∧PQ w' I F (q.mq x).1 n (K+5)∧ag F w w':=by
 have O0:=xh (ae (Below.refl w.heap.size w) (.cells #[.string x.key,.string x.val,.int .i64 x.aH] 111));have B0:=xh (ax.new w 111 #[.string x.key,.string x.val,.int .i64 x.aH]);have T0:=xh (h.below O0.out);have x1:=B0.out.ab (i:=1) rfl;have x2:=B0.out.ab (i:=2) rfl;have p0:=T0.out.1.ab (i:=0) rfl;have S0:=xh (And.intro p0 x2);have NB:=xh (show w.heap.size∉F from fun hm=>by have:=h.2.lt _ hm; omega)
 have KW:=xh (fun (W:World) (hW:TQ W tb I F q n K)=>GZ hW.2 hK x.aH);have KB:=xh uI;unfold QS.mq;generalize q.l5 x.aH=R at *;obtain ⟨q1,e1⟩:=R;dsimp only at *;clear h;unfold tp E.agg at *;unfold pp at KW p0 S0
 by_cases hf:x.aH<0
 ·rw [if_pos hf];go_enter Tryz.func71,Tryz.ntmps71;go_wp2_with fail;go_ret;exact ⟨by first | rfl | simp,T0.out.2.le (by omega),.ak O0.out⟩
 ·rw [if_neg hf];go_enter Tryz.func71,Tryz.ntmps71;go_wp2_with fail;clear p0 x1 x2;refine wp_region_held_drew (S:=fun W=>W.cell? ⟨tb,0,none⟩=some (.pointer (some ⟨I.pb,0,none⟩))∧W.cell? ⟨w.heap.size,2,none⟩=some (.int .i64 x.aH)) (by kernel_rfl) (S0.out) (fun aj=>?_);refine bR [(0,8),(1,9),(2,10),(3,11),(4,12),(5,13)] ?_
  iterate 6 (refine zt ?_; try simp only [Act.put,pa,pb,pc])
  refine bS ?_;refine cA (i:=6) (o:=⟨some 14,_,_,_,_,_⟩) fun K hK=>?_;go_simp
  go_at_call 123
  refine (KW.out _ (T0.out.drew)).mono ?_;rintro e w2 ⟨rfl,P2,o2⟩;have P2:=xh P2;have O2:=xh ((ag.ak O0.out).drew.trans o2);have S2:=xh (And.intro ((T0.out.drew.next o2 P2.out).1.ab (i:=0) rfl) ((B0.out.drew.only o2 NB.out).ab (i:=2) rfl));clear o2;go_simp;refine hK.out _ _ (S2.out) (fun aj=>?_)
  try simp only [Act.put,pa,pb,pc]
  refine cA (i:=7) (o:=⟨some 15,_,_,_,_,_⟩) fun K hK=>?_;go_simp
  go_at_call 112
  refine (KB.out _ _).mono ?_;rintro e w3 ⟨rfl,rfl⟩;go_simp;refine hK.out _ _ (S2.out) (fun aj=>?_)
  try simp only [Act.put,pa,pb,pc]
  refine bR [(8,4)] ?_
  iterate 1 (refine zt ?_; try simp only [Act.put,pa,pb,pc])
  refine bS ?_;refine wpAnyH_done (by kernel_rfl) ?_ _;go_wp2_with fail;go_ret;exact ⟨by first | rfl | simp,P2.out,O2.out⟩
theorem storeE {w:World} {g:Nat} {a b a' b':ByteArray} {c c':Int} (B:ax w g 111 #[.string a,.string b,.int .i64 c]):
  ax (((w.setCell ⟨g,0,none⟩ (.string a')).setCell ⟨g,1,none⟩ (.string b')).setCell ⟨g,2,none⟩ (.int .i64 c')) g 111 #[.string a',.string b',.int .i64 c']∧ag [g] w (((w.setCell ⟨g,0,none⟩ (.string a')).setCell ⟨g,1,none⟩ (.string b')).setCell ⟨g,2,none⟩ (.int .i64 c'))∧
   w.cell? ⟨g,0,none⟩=some (.string a)∧w.cell? ⟨g,1,none⟩=some (.string b)∧w.cell? ⟨g,2,none⟩=some (.int .i64 c)∧w.frozen? ⟨g,0,none⟩=false∧w.frozen? ⟨g,1,none⟩=false∧w.frozen? ⟨g,2,none⟩=false:=
 ⟨((B.bq 0 _).bq 1 _).bq 2 _,(((ag.refl _ _).setCell (by simp) _).setCell (by simp) _).setCell (by simp) _,B.ab rfl,B.ab rfl,B.ab rfl,B.frozen 0 (by simp),B.frozen 1 (by simp),B.frozen 2 (by simp)⟩
theorem xA {w:World} {tb:Nat} {I:Ix} {F:List Nat} {q:QS} {n K:Nat} (h:TQ w tb I F q n K) (hK:K≤999999999900) (key value:ByteArray) (hv:value.size≤1024):
  Calls Tryz.prog 73 #[tp tb,.string key,.string value] w fun e w'=>e= .returned (.tuple #[(q.gm key value).2.1.agg,.int .i64 (q.gm key value).2.2])∧PT w w' I F (q.gm key value).1 n (K+5):=by
 have O0:=xh (ae (Below.refl w.heap.size w) (.cells #[.string ⟨#[]⟩,.string ⟨#[]⟩,.int .i64 0] 111));have B0:=xh (ax.new w 111 #[.string ⟨#[]⟩,.string ⟨#[]⟩,.int .i64 0]);have T0:=xh (h.below O0.out);have p0:=T0.out.1.ab (i:=0) rfl;have NB:=xh (show w.heap.size∉F from fun hm=>by have:=h.2.lt _ hm; omega);have KW:=xh (Lf T0.out.2 value hv hK);have HH:=xh h;unfold QS.gm;generalize q.l6 value.data.toList=R at *;obtain ⟨q1,l1,e1⟩:=R
 dsimp only at *;clear h;unfold tp E.agg at *;unfold pp at KW p0
 by_cases hs:value.size≤40
 ·rw [if_pos hs];have hsI:(value.size:Int)≤40:=by omega
  have B2:=xh (ax.new w 111 #[.string key,.string value,.int .i64 (-1)]);have o2:=xh (ae (Below.refl w.heap.size w) (.cells #[.string key,.string value,.int .i64 (-1)] 111));go_enter Tryz.func73,Tryz.ntmps73;go_wp2_with fail;exact bodyPost_ret (Nd.kD rfl rfl B2.out) rfl ⟨rfl,.self ((HH.out.2.below o2.out).le (by omega)) (.ak o2.out)⟩
 ·rw [if_neg hs];have hsI: ¬(value.size:Int)≤40:=by omega
  go_enter Tryz.func73,Tryz.ntmps73;go_wp2_with fail;refine KW.out.mono ?_;rintro e w1 ⟨rfl,F1,P1,o1,f1⟩;have H1:=xh (And.intro P1 (And.intro o1 f1));have NB1:=xh (show w.heap.size∉F1 from fun hm=>(f1 _ hm).elim NB.out (fun h=>by simp at h; omega));obtain ⟨B2,o2,c0,c1,c2,z0,z1,z2⟩:=storeE (a':=key) (b':=⟨#[]⟩) (c':=l1) (B0.out.only o1 NB.out);have B2:=xh B2;have o2:=xh o2;clear P1 o1 f1 p0;go_wp2_with fail
  exact bodyPost_ret (Nd.kD rfl rfl B2.out) rfl ⟨rfl,F1,H1.out.1.aH o2.out NB1.out,jt (((ag.ak (S:=w.heap.size::F) O0.out).trans (ju H1.out.2.1)).trans (jw o2.out)) (Nat.le_refl _),fun g hg=>(H1.out.2.2 g hg).imp id (fun h=>by simp at h; omega)⟩
theorem aC.last {w:World} {b:Nat} {v:Value} {L:List SM} (h:aC w b v L) {pre:List Step} {x:Step} (e:L.map SM.s=pre++[x]): ∃Lp A c g cc,L=Lp++[⟨x,A,c⟩]∧Lp.map SM.s=pre∧v= .slice (some ⟨g,0,none⟩) (pre.length+1) cc∧b≤g∧pre.length+1≤cc∧cc≤maxLen∧
  (∀j,j<4→w.cell? ⟨g,pre.length*4+j,none⟩=(SM.cells ⟨x,A,c⟩)[j]?)∧(∀j,j<4→w.frozen? ⟨g,pre.length*4+j,none⟩=false)∧aG w 111 3 (.slice A x.l.length c) x.l.length (aw x.l)∧(∀g∈ah (.slice A x.l.length c),b≤g):=by
 obtain ⟨Lp,y,rfl⟩: ∃Lp y,L=Lp++[y]:=by
  rcases List.eq_nil_or_concat L with h0 | ⟨Lp,y,h0⟩
  ·rw [h0] at e; simp at e
  ·exact ⟨Lp,y,by simpa using h0⟩
 rw [List.map_append,List.map_cons,List.map_nil] at e;obtain ⟨e1,e2⟩:=List.append_inj' e rfl;simp only [List.cons.injEq,and_true] at e2;obtain ⟨s,A,c⟩:=y;dsimp only at e2;subst e2;have hlen:Lp.length=pre.length:=by rw [←e1,List.length_map]
 have hS:=h.s;rw [List.length_append,List.length_cons,List.length_nil,hlen,Nat.zero_add] at hS;obtain ⟨g,cc,rest,rfl,B,hc,hr⟩:=hS.form (by omega) (by omega);have hm:cc≤maxLen:=by obtain ⟨_,_,_,_,h⟩:=hS.oM; exact h
 have hx:=h.e ⟨s,A,c⟩ (by simp);have lK:((Lp++[(⟨s,A,c⟩:SM)]).flatMap SM.cells).length=pre.length*4+4:=by rw [dE,List.length_append]; simp; omega
 refine ⟨Lp,A,c,g,cc,rfl,e1,rfl,h.f g (by simp [ah]),hc,hm,fun j hj=>?_,fun j hj=>B.frozen _ (by simp; rw [←List.length_flatMap] at *; simp [dE] at *; omega),hx.1,hx.2⟩;rw [B.cell,List.getElem?_toArray,List.getElem?_append_left (by rw [lK]; omega)];exact m7 (by rw [←hlen,List.getElem?_append_right (Nat.le_refl _),Nat.sub_self]; rfl) j hj
theorem uO {l:List E} {key:ByteArray} (h:bI l key=true): ∃e,l[aK l key]?=some e:=by
 unfold bI at h
 cases hx:l[aK l key]? with
 | none=>rw [hx] at h; cases h
 | some e=>exact ⟨e,rfl⟩
def fT (l:List Step):Step:=l.getLastD ⟨0,false,[],0⟩
def QS.qW (q:QS) (key:ByteArray):QS×ByteArray×Int:=
 if (q.dq key).2.2≠0 then ((q.dq key).1,⟨#[]⟩,(q.dq key).2.2)
 else if bI (fT (q.dq key).2.1).l key=true then (q.dq key).1.fS ((fT (q.dq key).2.1).l.getD (aK (fT (q.dq key).2.1).l key) Nd.E.zero)
 else ((q.dq key).1,⟨#[]⟩,9)
theorem Hl {w:World} {tb:Nat} {I:Ix} {F:List Nat} {q:QS} {n K:Nat} (h:TQ w tb I F q n K) (hK:K≤999999999000) (key:ByteArray):
  Calls Tryz.prog 20 #[tp tb,.string key] w fun e w'=>e= .returned (.tuple #[.string (q.qW key).2.1,.int .i64 (q.qW key).2.2])∧PQ w' I F (q.qW key).1 n (K+21)∧ag F w w':=by
 have KW:=xh (uL h (by omega) key);have HT:=xh h;have KV:=xh (fun (W:World) (qj:QS) (hW:TQ W tb I F qj n (K+16)) (x:E)=>uN hW (by omega) x);have dS:=D8 (q:=q) (key:=key);unfold QS.qW;generalize q.dq key=R at *;obtain ⟨q1,steps,er⟩:=R;dsimp only at *;clear h;unfold tp at *
 by_cases he:er=0
 ·subst he;obtain ⟨pre,x,rfl,nS,hnl,mf,hlen⟩:=dS rfl;rw [if_neg (by simp),show fT (pre++[x])=x from by unfold fT; simp];obtain ⟨hm,hl57,_⟩:=mf x (by simp);have hm:=xh hm;clear dS hnl mf nS;obtain ⟨RR,bf⟩: ∃RR,(if bI x.l key=true then q1.fS (x.l.getD (aK x.l key) Nd.E.zero) else (q1,⟨#[]⟩,9))=RR:=⟨_,rfl⟩;rw [bf];have eh:=xh bf;clear bf;go_enter Tryz.func20,Tryz.ntmps20;go_wp2_with fail;refine KW.out.mono ?_;rintro e w1 ⟨v,L,rfl,SA,kH,P1,o1⟩
  obtain ⟨Lp,A,c,g,cc,rfl,ji,rfl,hbg,Cc,rl,fi,IY,S1,f1⟩:=SA.last kH;have T1:=xh (HT.out.next o1 P1);have o1:=xh o1;have S1:=xh S1;have x1:w1.cell? ⟨g,pre.length*4+1,none⟩=some (.bool x.leaf):=fi 1 (by omega);have x2:w1.cell? ⟨g,pre.length*4+1+1,none⟩=some (.slice A x.l.length c):=fi 2 (by omega);have s1:IntKind.i64.wrap (((pre.length+1:Nat):Int)-1)=(pre.length:Int):=by rw [show ((pre.length+1:Nat):Int)-1=(pre.length:Int) by omega]; exact IntWalk.i64_in _ (by omega)
  have s2:(pre.length:Int)<((pre.length+1:Nat):Int):=by omega
  have fj:=ae (Below.refl w1.heap.size w1) (.cells #[.bool x.leaf,.slice A x.l.length c] 118);have B2:=xh (ax.new w1 118 #[.bool x.leaf,.slice A x.l.length c]);have y0:=B2.out.ab (i:=0) rfl;have y1:=B2.out.ab (i:=1) rfl;have S2:=xh (S1.out.below fj);have KF:=xh (Nd.qP x.leaf A x.l.length c x.l key (Nd.aG.aw S2.out).2 (by omega) hm.out);have HAL:=xh fj;unfold aT at KF;clear SA kH P1 ji fi IY f1 fj;go_wp2_with fail
  refine KF.out.mono ?_;rintro e w3 ⟨rfl,eG⟩;have O3:=xh (ao HAL.out eG);have T3:=xh (T1.out.below O3.out);have z1:=(B2.out.below eG B2.out.lt).ab (i:=1) rfl;have S3:=xh (S2.out.below eG);clear x1 x2 y0 y1 eG
  by_cases hh:bI x.l key=true
  ·obtain ⟨ex,hex⟩:=uO hh;have hfx:x.l.getD (aK x.l key) Nd.E.zero=ex:=by rw [List.getD_eq_getElem?_getD,hex]; rfl
   have bf:=eh.out;rw [if_pos hh,hfx] at bf;subst bf;generalize bI x.l key=hb at *;subst hh;have lY:aK x.l key<x.l.length:=(List.getElem?_eq_some_iff.1 hex).1;generalize aK x.l key=at_ at *;obtain ⟨ad,qU,eM⟩:=(Nd.aG.aw S3.out).2.2 at_ ex hex;obtain ⟨ga,ca,uM,wO,_⟩:=S3.out.form (by omega) (by omega);injection wO with e1 e2 e3
   subst e1 e3;injection qU with qU
   subst qU;rw [Nd.eX,Nat.zero_add] at eM;have u0:=eM.c0;have u1:=eM.c1;have u2:=eM.c2;dsimp only at u1 u2;have K3:=xh (KV.out w3 q1 T3.out ex);unfold E.agg at K3;have hflI:(at_:Int)<(x.l.length:Int):=by omega
   clear eM hex hfx;go_wp2_with fail;refine K3.out.mono ?_;rintro e w4 ⟨rfl,P4,o4⟩;have P4:=xh P4;have O4:=xh ((o1.out.trans (.ak O3.out)).trans o4);clear o4 u0 u1 u2 z1;go_wp2_with fail;go_ret2;exact ⟨by first | rfl | simp,P4.out,O4.out⟩
  ·have hh2:bI x.l key=false:=by simpa using hh
   have bf:=eh.out;rw [if_neg hh] at bf;subst bf;generalize bI x.l key=hb at *;subst hh2;clear hh;go_wp2_with fail;go_ret2;exact ⟨by first | rfl | simp,T3.out.2.le (by omega),o1.out.trans (.ak O3.out)⟩
 ·rw [if_pos he];have hq:(er != 0)=true:=by rw [bne_iff_ne]; exact he
  have jm:(er==0)=false:=by rw [beq_eq_false_iff_ne]; exact he
  clear dS;go_enter Tryz.func20,Tryz.ntmps20;go_wp2_with fail;refine KW.out.mono ?_;rintro e w1 ⟨v,L,rfl,SA,kH,P1,o1⟩;have P1:=xh P1;have o1:=xh o1;clear SA kH;go_wp2_with fail;go_ret2;exact ⟨by first | rfl | simp,P1.out.le (by omega),o1.out⟩
end Go.Proofs.YtmonobkginiajaaGreat.Sh
namespace Go.Proofs.YtmonobkginiajaaGreat.Sh
open Go.RowKit Pk Dk Pg
open Nd (E aw aT aF aJ cM bg aK bI bj)
attribute [local go_sem ↓] Go.wp_at_zero Go.wp_at_succ
def keyOf (l:List E):ByteArray:=(l.headD Nd.E.zero).key
def QS.uP (q:QS) (leaf:Bool) (la lb:List E):QS×Int:=
 if (q.dh leaf la).2.2≠0 then ((q.dh leaf la).1,(q.dh leaf la).2.2)
 else if ((q.dh leaf la).1.dh leaf lb).2.2≠0 then (((q.dh leaf la).1.dh leaf lb).1,((q.dh leaf la).1.dh leaf lb).2.2)
 else ((q.dh leaf la).1.dh leaf lb).1.cg 0 false [⟨⟨#[]⟩,⟨#[]⟩,(q.dh leaf la).2.1⟩,⟨keyOf lb,⟨#[]⟩,((q.dh leaf la).1.dh leaf lb).2.1⟩]
theorem PT.FZ {w w':World} {I:Ix} {F:List Nat} {q q0:QS} {n K K0:Nat} {A:Option Addr} {m c:Nat} {l:List E} (h:PT w w' I F q n K) (P:PQ w I F q0 n K0) (S:aG w 111 3 (.slice A m c) m (aw l)):aG w' 111 3 (.slice A m c) m (aw l):=by
 obtain ⟨F',_,o,_⟩:=h;exact S.only o (fun g hg=>by
  obtain ⟨cs,B⟩:=sA S g hg;exact P.iR B (by decide) (by decide) (by decide) (by decide) (by decide) (by decide) (by decide) (by decide) (by decide))
theorem PT.tq {w w':World} {tb:Nat} {I:Ix} {F:List Nat} {q q0:QS} {n K K0:Nat} (T:TQ w tb I F q0 n K0) (h:PT w w' I F q n K): ∃F',TQ w' tb I F' q n K∧ag F w w'∧ ∀g∈F',g∈F∨w.heap.size≤g:=by
 obtain ⟨F',P,o,f⟩:=h;exact ⟨F',⟨T.1.only o T.ne,P⟩,o,f⟩
theorem Hm {w:World} {tb:Nat} {I:Ix} {F:List Nat} {q:QS} {n K:Nat} (h:TQ w tb I F q n K) (hK:K≤999999999900) (leaf:Bool) (A1:Option Addr) (m1 c1:Nat) (la:List E) (S1:aG w 111 3 (.slice A1 m1 c1) m1 (aw la)) (A2:Option Addr) (m2 c2:Nat) (lb:List E) (S2:aG w 111 3 (.slice A2 m2 c2) m2 (aw lb)) (hm1:m1≤1000) (IC:m2≤1000) (h0:0<m2):
  Calls Tryz.prog 130 #[tp tb,aT leaf A1 m1 c1,aT leaf A2 m2 c2] w fun e w'=>e= .returned (.int .i64 (q.uP leaf la lb).2)∧PT w w' I F (q.uP leaf la lb).1 n (K+3):=by
 have Ff:=ae (ae (Below.refl w.heap.size w) (.cells #[.bool leaf,.slice A1 m1 c1] 118)) (.cells #[.bool leaf,.slice A2 m2 c2] 118);have O0:=xh Ff;have B1:=xh ((ax.new w 118 #[.bool leaf,.slice A1 m1 c1]).alloc (.cells #[.bool leaf,.slice A2 m2 c2] 118));have B2:=ax.new (w.alloc (.cells #[.bool leaf,.slice A1 m1 c1] 118)) 118 #[.bool leaf,.slice A2 m2 c2];rw [lu] at B2;have B2:=xh B2
 have H0:=xh (And.intro (h.below Ff) (And.intro (S1.below Ff) (S2.below Ff)));have x0:=B1.out.ab (i:=0) rfl;have x1:=B1.out.ab (i:=1) rfl;have KM1:=xh (qR H0.out.1 (by omega) leaf A1 m1 c1 la H0.out.2.1 hm1);have KM2:=xh (fun (W:World) (F':List Nat) (qj:QS) (hW:TQ W tb I F' qj n (K+1)) (S:aG W 111 3 (.slice A2 m2 c2) m2 (aw lb))=>qR hW (by omega) leaf A2 m2 c2 lb S IC)
 have KW:=xh (fun (W:World) (F':List Nat) (qj:QS) (hW:TQ W tb I F' qj n (K+2)) (g:Nat) (l:List E) (S:aG W 111 3 (.slice (some ⟨g,0,none⟩) 2 2) 2 (aw l))=>lr hW (by omega) 0 false (some ⟨g,0,none⟩) 2 2 l S (by omega));have HL:=xh (show w.heap.size∉F∧w.heap.size+1∉F from ⟨fun hm=>by have:=h.2.lt _ hm; omega,fun hm=>by have:=h.2.lt _ hm; omega⟩);obtain ⟨eb,rb,rfl⟩: ∃e r,lb=e::r:=by
  have:=S2.1;rw [jq] at this
  cases lb with
  | nil=>simp at this; omega
  | cons e r=>exact ⟨e,r,rfl⟩
 obtain ⟨RR,bf⟩: ∃RR,q.uP leaf la (eb::rb)=RR:=⟨_,rfl⟩;rw [bf];unfold QS.uP keyOf at bf;generalize q.dh leaf la=R1 at *;obtain ⟨q1,l1,e1⟩:=R1;dsimp only [List.headD_cons] at *;have eh:=xh bf;clear h S1 S2 bf Ff;unfold tp aT at *;go_enter Tryz.func130,Tryz.ntmps130;go_wp2_with fail;refine KM1.out.mono ?_;rintro e w1 ⟨rfl,P1⟩;have S21:=xh (P1.FZ H0.out.1.2 H0.out.2.2);obtain ⟨F1,T1,o1,f1⟩:=P1.tq H0.out.1;have B21:=xh (B2.out.only o1 HL.out.2)
 have H1:=xh (show TQ w1 tb I F1 q1 n (K+1)∧ag F w w1∧(∀g∈F1,g∈F∨w.heap.size≤g)∧w.heap.size+1∉F1 from
  ⟨T1,(ag.ak O0.out).trans o1,fun g hg=>(f1 g hg).imp id (fun h=>by simp at h; omega),fun hm=>(f1 _ hm).elim HL.out.2 (fun h=>by rw [lu,lu] at h; omega)⟩)
 clear P1 T1 o1 f1 x0 x1
 by_cases he1:e1=0
 ·subst he1;have y0:=B21.out.ab (i:=0) rfl;have y1:=B21.out.ab (i:=1) rfl;have K2:=xh (KM2.out w1 F1 q1 H1.out.1 S21.out);have bf:=eh.out;rw [if_neg (by simp)] at bf;generalize q1.dh leaf (eb::rb)=R2 at *;obtain ⟨q2,l2,e2⟩:=R2;dsimp only at *;have eh:=xh bf;clear bf;go_wp2_with fail;refine K2.out.mono ?_;rintro e w2 ⟨rfl,P2⟩;have S22:=xh (P2.FZ H1.out.1.2 S21.out);obtain ⟨F2,T2,o2,f2⟩:=P2.tq H1.out.1;have B22:=xh (B21.out.only o2 H1.out.2.2.2)
  have H2:=xh (show TQ w2 tb I F2 q2 n (K+2)∧ag F w w2∧(∀g∈F2,g∈F∨w.heap.size≤g) from
   ⟨T2,H1.out.2.1.aS o2 (fun g hg dL=>(H1.out.2.2.1 g hg).elim id (fun h=>by omega)),fun g hg=>(f2 g hg).elim (H1.out.2.2.1 g) (fun h=>by have:=H1.out.2.1.size; omega)⟩)
  clear P2 T2 o2 f2 y0 y1
  by_cases sE:e2=0
  ·subst sE;have bf:=eh.out;rw [if_neg (by simp)] at bf;obtain ⟨g2,yl,LQ,nz,BB2,_,_⟩:=S22.out.form h0 (by omega);simp only [Value.slice.injEq,true_and] at nz;obtain ⟨rfl,rfl⟩:=nz;have z1:=B22.out.ab (i:=1) rfl;have k0:w2.cell? ⟨g2,0,none⟩=some (.string eb.key):=BB2.ab rfl;have fj:=ae (Below.refl w2.heap.size w2) (.cells #[.string ⟨#[]⟩,.string ⟨#[]⟩,.int .i64 l1,.string eb.key,.string ⟨#[]⟩,.int .i64 l2] 111)
   have SN:aG (w2.alloc (.cells #[.string ⟨#[]⟩,.string ⟨#[]⟩,.int .i64 l1,.string eb.key,.string ⟨#[]⟩,.int .i64 l2] 111)) 111 3 (.slice (some ⟨w2.heap.size,0,none⟩) 2 2) 2 (aw [⟨⟨#[]⟩,⟨#[]⟩,l1⟩,⟨eb.key,⟨#[]⟩,l2⟩]):=
    ⟨rfl,.inr ⟨w2.heap.size,2,[],rfl,ax.new w2 _ _,rfl,by unfold maxLen; omega⟩⟩
   have K3:=xh (KW.out _ F2 q2 (H2.out.1.below fj) w2.heap.size _ SN);have h0I:(0:Int)<(m2:Int):=by omega
   have HAL:=xh fj;clear BB2 fj SN;rw [bf] at K3;clear bf;go_wp2_with fail;refine K3.out.mono ?_;rintro e w3 ⟨rfl,P3,o3⟩;have H3:=xh (show PT w w3 I F RR.1 n (K+3) from ⟨F2,P3,(H2.out.2.1.trans (.ak HAL.out)).aS o3 (fun g hg dL=>(H2.out.2.2 g hg).elim id (fun h=>by omega)),H2.out.2.2⟩);clear P3 o3 z1 k0;go_wp2_with fail;go_ret;exact ⟨by first | rfl | simp,H3.out⟩
  ·have bf:=eh.out;rw [if_pos sE] at bf;subst bf;have hq:(e2 != 0)=true:=by rw [bne_iff_ne]; exact sE
   have jm:(e2==0)=false:=by rw [beq_eq_false_iff_ne]; exact sE
   go_wp2_with fail;go_ret;exact ⟨by first | rfl | simp,F2,H2.out.1.2.le (by omega),H2.out.2.1,H2.out.2.2⟩
 ·have bf:=eh.out;rw [if_pos he1] at bf;subst bf;have hq:(e1 != 0)=true:=by rw [bne_iff_ne]; exact he1
  have jm:(e1==0)=false:=by rw [beq_eq_false_iff_ne]; exact he1
  go_wp2_with fail;go_ret;exact ⟨by first | rfl | simp,F1,H1.out.1.2.le (by omega),H1.out.2.1,H1.out.2.2.1⟩
end Go.Proofs.YtmonobkginiajaaGreat.Sh
