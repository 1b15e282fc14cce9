/- packed. -/
import Derived.Test.YtmonobkginiajaaGreatBs14
set_option linter.all false
set_option maxRecDepth 100000
set_option maxHeartbeats 8000000
namespace Go.Proofs.YtmonobkginiajaaGreat
open Go.Proofs.Tryz
namespace Sh
open Go.RowKit Pk Dk Pg
attribute [local go_sem ↓] Go.wp_at_zero Go.wp_at_succ
variable{nW sj z wb tb mb n Kz mm k:Nat}{F' F F1:List Nat}{w:World}{I:Ix}{vl vo:Value}{q:QS}{l o:List PR}
def pD(w w':World)(wb tb mb:Nat)(I:Ix)(F:List Nat)(n Kz mm k:Nat):Prop:=
 ∃nW sj F' Sg vo' q' l' o',TW w' wb nW sj I F' Sg vo' q' n Kz l' o'/\TI q' l' o' mm k/\ag (wb::mb::F) w w'/\FrA (mb::tb::F) w.heap.size (sj::nW::F')
section
variable{w:World}{wb tb mb:Nat}{I:Ix}{F:List Nat}{vl vo:Value}{q:QS}{n Kz mm k:Nat}{l o:List PR}
theorem TW.act(h:TW w wb tb mb I F vl vo q n Kz l o)(kd nn:Int)(key az val:ByteArray):TW (w.alloc (.cells (tF kd nn key az val) 28)) wb tb mb I F vl vo q n Kz l o/\aF (w.alloc (.cells (tF kd nn key az val) 28)) w.heap.size 28 (tF kd nn key az val)/\w.heap.size∉wb::mb::F/\ag (wb::mb::F) w (w.alloc (.cells (tF kd nn key az val) 28)):=by
 have hb:=ae (Below.refl w.heap.size w) (.cells (tF kd nn key az val) 28);have T0:=h.below hb;have C:=aF.new w 28 (tF kd nn key az val);exact⟨T0,C,T0.actF C,.ai hb⟩
theorem pD.of{w':World}{Sg vo':Value}{q':QS}{K':Nat}{l' o':List PR}(T:TW w' wb nW sj I F' Sg vo' q' n K' l' o')(i:TI q' l' o' mm k)(ho:ag (wb::mb::F) w w')(f:FrA (mb::tb::F) w.heap.size (sj::nW::F'))(hK:K'<=Kz):pD w w' wb tb mb I F n Kz mm k:=⟨nW,sj,F',Sg,vo',q',l',o',T.le hK,i,ho,f⟩
theorem rI{w1:Nat}(f1:∀g∈F1,g∈F\/z<=g)(hz:z<=w1)(f2:∀g∈sj::nW::F',g∈F1\/w1<=g):FrA (mb::tb::F) z (sj::nW::F'):=λg hg=>(f2 g hg).elim (λh=>(f1 g h).elim (λh=> .inl (aw _ (aw _ h))) .inr) (λh=> .inr (aq hz h))
theorem rJ(f1:∀g∈F1,g∈F\/z<=g):FrA (mb::tb::F) z (mb::tb::F1):=λg hg=>by
 simp only[aj]at hg
 rcases hg with rfl|rfl|hg
 .exact .inl (by simp)
 .exact .inl (by simp)
 .exact(f1 g hg).elim (λh=> .inl (aw _ (aw _ h))) .inr
end
theorem uN(h:TW w wb tb mb I F vl vo q n Kz l o)(hi:TI q l o mm k)(hk:k<100)(hK:Kz<=999900000000)(kd nn:Int)(key az val:ByteArray)(xP:key.size<=100000)(Cm:val.size<=100000)(CA:kd=0\/kd=1\/kd=2\/kd=3\/kd=4):
  Calls prog 15 #[.pointer (some ⟨wb,0,none⟩),.agg (tF kd nn key az val)] w λe w'=>e=.returned (.bool true)/\pD w w' wb tb mb I F n (Kz+40000000) mm (k+1):=by
 have G:=hi.setM key val hk;have hlen:=hi.sorted.2;obtain⟨q1,e1,Fe⟩:∃q1 e1,q.iD key val=(q1,e1):=⟨_,_,rfl⟩;have KS:=xh (λ(W:World) (hW:TW W wb tb mb I F vl vo q n Kz l o)=>AR hW.t (by omega) key val xP Cm);rw[Fe]at KS G;dsimp only at KS G;obtain⟨f1,oK⟩:∃f1:Int,(if 32<key.size\/1024<val.size then 4 else 0)=f1:=⟨_,rfl⟩;have KM:=xh (λ(W:World) (v:Value) (hW:Mp W mb v l)=>WX hW key val (by omega) (by omega) (by omega));rw[oK]at KM G
 have HF:=xh (show f1≠11/\f1≠12 from by rw[<-oK];split<;>decide);unfold tp at KS;clear oK Fe hlen;obtain⟨T0,CZ,kk,O0⟩:=h.act kd nn key az val;obtain⟨z,hz⟩:∃z,w.heap.size=z:=⟨_,rfl⟩;rw[hz]at CZ kk;have T0:=xh T0;have CZ:=xh CZ;have kk:=xh kk;have O0:=xh O0;have HZ:=xh hz;have Gq:=xh (And.intro hk hK);clear h hi hk hK hz;have y0:=CZ.o.ab (i:=0) rfl;have y2:=CZ.o.ab (i:=2) rfl;have y4:=CZ.o.ab (i:=4) rfl
 obtain⟨x1,x2,x3,x4⟩:=T0.o.cells;have tA:=HZ.o;unfold tF at *
 rcases G with⟨g1,J⟩|⟨g1,J⟩
 .have J:=xh J;rw[g1]at KS;clear g1 KM
  rcases CA with rfl|rfl|rfl|rfl|rfl
  all_goals
   go_enter func15,ntmps15;go_wp2_with fail;refine wp_region_held_drew (S:=λW=>W.cell? ⟨wb,2,none⟩=some (.pointer (some ⟨tb,0,none⟩))/\W.cell? ⟨z,2,none⟩=some (.string key)/\W.cell? ⟨z,4,none⟩=some (.string val)) (by kernel_rfl) (⟨x2,y2,y4⟩) (λau=>?_);refine cP [(0,20),(1,21),(2,22),(3,23),(4,24),(5,25),(6,26),(7,27)] ?_
   iterate 8 refine bj ?_
   refine cQ 8 28 λK hK=>?_;go_simp
   go_at_call 25
   refine(KS.o _ T0.o.drew).mono ?_;rintro e w1 ⟨rfl,hp⟩;obtain⟨F1,T1,o1,f1⟩:=T0.o.drew.tree hp;have T1:=xh T1;have C1:=xh (CZ.o.drew.only o1 (λhm=>kk.o (aw _ (aw _ hm))));have O1:=xh (O0.o.drew.trans (o1.mono (λx hx _=>aw _ (aw _ hx))));have f1:=xh (show ∀g∈F1,g∈F\/w.heap.size<=g from λg hg=>(f1 g hg).imp id (λh=>aq O0.o.size h));clear hp o1;go_simp
   refine bz hK (⟨T1.o.cells.2.1,C1.o.ab (i:=2) rfl,C1.o.ab (i:=4) rfl⟩) (λau=>?_);refine cP [(9,5)] ?_
   iterate 1 refine bj ?_
   refine wpAnyH_done (by kernel_rfl) ?_ _;clear y0 y2 y4;clear x1 x2 x3 x4;obtain⟨x1,x2,x3,x4⟩:=T1.o.cells;go_wp2_with fail;refine(eZ _).mono ?_;rintro e _ ⟨rfl,rfl⟩;go_wp2_with fail;refine(eZ _).mono ?_;rintro e _ ⟨rfl,rfl⟩;have KB:=xh (kS T1.o (by have:=Gq.o;omega) J.o.back.1);clear x1 x2 x3 x4;go_wp2_with fail;refine KB.o.mono ?_;rintro e w9 ⟨rfl,nW,sj,F',T9,o9,f9⟩
   have R9:=xh (show pD w w9 wb tb mb I F n (Kz+40000000) mm (k+1)from pD.of T9 J.o.back.2 (O1.o.aL o9 (λx hx hl=>(aj.1 hx).elim (λe=>by simp[e]) (λh=>(f1.o x h).elim (λh=>by simp[h]) (λh=>by omega)))) (rI f1.o O1.o.size f9) (by omega));clear T9 o9 f9;go_wp2_with fail;go_ret;exact aP R9.o
 .have J:=xh J;rw[g1]at KS;clear g1;have FV:=xh HF.o.1;have r8:=xh HF.o.2
  rcases CA with rfl|rfl|rfl|rfl|rfl
  all_goals
   go_enter func15,ntmps15;go_wp2_with fail;refine wp_region_held_drew (S:=λW=>W.cell? ⟨wb,2,none⟩=some (.pointer (some ⟨tb,0,none⟩))/\W.cell? ⟨z,2,none⟩=some (.string key)/\W.cell? ⟨z,4,none⟩=some (.string val)) (by kernel_rfl) (⟨x2,y2,y4⟩) (λau=>?_);refine cP [(0,20),(1,21),(2,22),(3,23),(4,24),(5,25),(6,26),(7,27)] ?_
   iterate 8 refine bj ?_
   refine cQ 8 28 λK hK=>?_;go_simp
   go_at_call 25
   refine(KS.o _ T0.o.drew).mono ?_;rintro e w1 ⟨rfl,hp⟩;obtain⟨F1,T1,o1,f1⟩:=T0.o.drew.tree hp;have T1:=xh T1;have C1:=xh (CZ.o.drew.only o1 (λhm=>kk.o (aw _ (aw _ hm))));have O1:=xh (O0.o.drew.trans (o1.mono (λx hx _=>aw _ (aw _ hx))));have f1:=xh (show ∀g∈F1,g∈F\/w.heap.size<=g from λg hg=>(f1 g hg).imp id (λh=>aq O0.o.size h));clear hp o1;go_simp
   refine bz hK (⟨T1.o.cells.2.1,C1.o.ab (i:=2) rfl,C1.o.ab (i:=4) rfl⟩) (λau=>?_);refine cP [(9,5)] ?_
   iterate 1 refine bj ?_
   refine wpAnyH_done (by kernel_rfl) ?_ _;clear y0 y2 y4;clear x1 x2 x3 x4;have y2:=C1.o.ab (i:=2) rfl;have y4:=C1.o.ab (i:=4) rfl;obtain⟨x1,x2,x3,x4⟩:=T1.o.cells;go_wp2_with fail;refine(fq _ FV.o r8.o _).mono ?_;rintro e _ ⟨rfl,rfl⟩;go_wp2_with fail
   refine wp_region_held_drew (S:=λW=>W.cell? ⟨wb,3,none⟩=some (.pointer (some ⟨mb,0,none⟩))/\W.cell? ⟨z,2,none⟩=some (.string key)/\W.cell? ⟨z,4,none⟩=some (.string val)) (by kernel_rfl) (⟨x3,y2,y4⟩) (λau=>?_);refine cP [(0,32),(1,33),(2,34),(3,35),(4,36),(5,37),(6,38),(7,39)] ?_
   iterate 8 refine bj ?_
   refine cQ 8 40 λK hK=>?_;go_simp
   go_at_call 54
   refine(KM.o _ _ T1.o.drew.m).mono ?_;rintro e w2 ⟨rfl,v2,M2,o2⟩;have T2:=xh (T1.o.drew.map o2 M2);have C2:=xh (C1.o.drew.only o2 (λhm=>kk.o (by simp at hm;simp[hm])));have O2:=xh (O1.o.drew.trans (o2.mono (λx hx _=>by simp at hx;simp[hx])));clear M2 o2;go_simp;refine bz hK (⟨T2.o.cells.2.2.1,C2.o.ab (i:=2) rfl,C2.o.ab (i:=4) rfl⟩) (λau=>?_);refine cP [(9,6)] ?_
   iterate 1 refine bj ?_
   refine wpAnyH_done (by kernel_rfl) ?_ _;clear x1 x2 x3 x4;go_wp2_with fail;refine(fq _ FV.o r8.o _).mono ?_;rintro e _ ⟨rfl,rfl⟩;have R9:=xh (show pD w _ wb tb mb I F n (Kz+40000000) mm (k+1)from pD.of T2.o J.o O2.o (rJ f1.o) (by omega));go_wp2_with fail;go_ret;exact aP R9.o
theorem Pj(h:TW w wb tb mb I F vl vo q n Kz l o)(hi:TI q l o mm k)(hk:k<100)(hK:Kz<=999900000000)(kd nn:Int)(key az val:ByteArray)(xP:key.size<=100000)(Cm:val.size<=100000)(CA:kd=5\/kd=6):
  Calls prog 15 #[.pointer (some ⟨wb,0,none⟩),.agg (tF kd nn key az val)] w λe w'=>e=.returned (.bool true)/\pD w w' wb tb mb I F n (Kz+40000000) mm (k+1):=by
 have G:=hi.delM key;obtain⟨q1,e1,Fe⟩:∃q1 e1,q.iT key=(q1,e1):=⟨_,_,rfl⟩;have KS:=xh (λ(W:World) (hW:TW W wb tb mb I F vl vo q n Kz l o)=>AS hW.t (by omega) key);rw[Fe]at KS G;dsimp only at KS G;obtain⟨f1,oK⟩:∃f1:Int,(if tE l key=true then 0 else 9)=f1:=⟨_,rfl⟩;have KM:=xh (λ(W:World) (v:Value) (hW:Mp W mb v l)=>WW hW key);rw[oK]at KM G
 have G:(e1=11/\TJ q1 o mm (k+1))\/(e1=f1/\TI q1 (Jw l key) o mm (k+1)):=G.imp (λx=>⟨x.1,x.2.le (by omega)⟩) (λx=>⟨x.1,x.2.le (by omega)⟩);have HF:=xh (show f1≠11/\f1≠12 from by rw[<-oK];split<;>decide);unfold tp at KS;clear oK Fe;obtain⟨T0,CZ,kk,O0⟩:=h.act kd nn key az val;obtain⟨z,hz⟩:∃z,w.heap.size=z:=⟨_,rfl⟩;rw[hz]at CZ kk;have T0:=xh T0;have CZ:=xh CZ;have kk:=xh kk;have O0:=xh O0;have HZ:=xh hz;have Gq:=xh (And.intro hk hK)
 clear h hi hk hK hz;have y0:=CZ.o.ab (i:=0) rfl;have y2:=CZ.o.ab (i:=2) rfl;obtain⟨x1,x2,x3,x4⟩:=T0.o.cells;have tA:=HZ.o;unfold tF at *
 rcases G with⟨g1,J⟩|⟨g1,J⟩
 .have J:=xh J;rw[g1]at KS;clear g1 KM
  rcases CA with rfl|rfl
  all_goals
   go_enter func15,ntmps15;go_wp2_with fail;refine wp_region_held_drew (S:=λW=>W.cell? ⟨wb,2,none⟩=some (.pointer (some ⟨tb,0,none⟩))/\W.cell? ⟨z,2,none⟩=some (.string key)) (by kernel_rfl) (⟨x2,y2⟩) (λau=>?_);refine cP [(0,44),(1,45),(2,46),(3,47),(4,48),(5,49)] ?_
   iterate 6 refine bj ?_
   refine cQ 6 50 λK hK=>?_;go_simp
   go_at_call 26
   refine(KS.o _ T0.o.drew).mono ?_;rintro e w1 ⟨rfl,hp⟩;obtain⟨F1,T1,o1,f1⟩:=T0.o.drew.tree hp;have T1:=xh T1;have C1:=xh (CZ.o.drew.only o1 (λhm=>kk.o (aw _ (aw _ hm))));have O1:=xh (O0.o.drew.trans (o1.mono (λx hx _=>aw _ (aw _ hx))));have f1:=xh (show ∀g∈F1,g∈F\/w.heap.size<=g from λg hg=>(f1 g hg).imp id (λh=>aq O0.o.size h));clear hp o1;go_simp
   refine bz hK (⟨T1.o.cells.2.1,C1.o.ab (i:=2) rfl⟩) (λau=>?_);refine cP [(7,5)] ?_
   iterate 1 refine bj ?_
   refine wpAnyH_done (by kernel_rfl) ?_ _;clear y0 y2;clear x1 x2 x3 x4;obtain⟨x1,x2,x3,x4⟩:=T1.o.cells;go_wp2_with fail;refine(eZ _).mono ?_;rintro e _ ⟨rfl,rfl⟩;go_wp2_with fail;refine(eZ _).mono ?_;rintro e _ ⟨rfl,rfl⟩;have KB:=xh (kS T1.o (by have:=Gq.o;omega) J.o.back.1);clear x1 x2 x3 x4;go_wp2_with fail;refine KB.o.mono ?_;rintro e w9 ⟨rfl,nW,sj,F',T9,o9,f9⟩
   have R9:=xh (show pD w w9 wb tb mb I F n (Kz+40000000) mm (k+1)from pD.of T9 J.o.back.2 (O1.o.aL o9 (λx hx hl=>(aj.1 hx).elim (λe=>by simp[e]) (λh=>(f1.o x h).elim (λh=>by simp[h]) (λh=>by omega)))) (rI f1.o O1.o.size f9) (by omega));clear T9 o9 f9;go_wp2_with fail;go_ret;exact aP R9.o
 .have J:=xh J;rw[g1]at KS;clear g1;have FV:=xh HF.o.1;have r8:=xh HF.o.2
  rcases CA with rfl|rfl
  all_goals
   go_enter func15,ntmps15;go_wp2_with fail;refine wp_region_held_drew (S:=λW=>W.cell? ⟨wb,2,none⟩=some (.pointer (some ⟨tb,0,none⟩))/\W.cell? ⟨z,2,none⟩=some (.string key)) (by kernel_rfl) (⟨x2,y2⟩) (λau=>?_);refine cP [(0,44),(1,45),(2,46),(3,47),(4,48),(5,49)] ?_
   iterate 6 refine bj ?_
   refine cQ 6 50 λK hK=>?_;go_simp
   go_at_call 26
   refine(KS.o _ T0.o.drew).mono ?_;rintro e w1 ⟨rfl,hp⟩;obtain⟨F1,T1,o1,f1⟩:=T0.o.drew.tree hp;have T1:=xh T1;have C1:=xh (CZ.o.drew.only o1 (λhm=>kk.o (aw _ (aw _ hm))));have O1:=xh (O0.o.drew.trans (o1.mono (λx hx _=>aw _ (aw _ hx))));have f1:=xh (show ∀g∈F1,g∈F\/w.heap.size<=g from λg hg=>(f1 g hg).imp id (λh=>aq O0.o.size h));clear hp o1;go_simp
   refine bz hK (⟨T1.o.cells.2.1,C1.o.ab (i:=2) rfl⟩) (λau=>?_);refine cP [(7,5)] ?_
   iterate 1 refine bj ?_
   refine wpAnyH_done (by kernel_rfl) ?_ _;clear y0 y2;clear x1 x2 x3 x4;have y2:=C1.o.ab (i:=2) rfl;obtain⟨x1,x2,x3,x4⟩:=T1.o.cells;go_wp2_with fail;refine(fq _ FV.o r8.o _).mono ?_;rintro e _ ⟨rfl,rfl⟩;go_wp2_with fail;refine wp_region_held_drew (S:=λW=>W.cell? ⟨wb,3,none⟩=some (.pointer (some ⟨mb,0,none⟩))/\W.cell? ⟨z,2,none⟩=some (.string key)) (by kernel_rfl) (⟨x3,y2⟩) (λau=>?_);refine cP [(0,54),(1,55),(2,56),(3,57),(4,58),(5,59)] ?_
   iterate 6 refine bj ?_
   refine cQ 6 60 λK hK=>?_;go_simp
   go_at_call 55
   refine(KM.o _ _ T1.o.drew.m).mono ?_;rintro e w2 ⟨rfl,v2,M2,o2⟩;have T2:=xh (T1.o.drew.map o2 M2);have C2:=xh (C1.o.drew.only o2 (λhm=>kk.o (by simp at hm;simp[hm])));have O2:=xh (O1.o.drew.trans (o2.mono (λx hx _=>by simp at hx;simp[hx])));clear M2 o2;go_simp;refine bz hK (⟨T2.o.cells.2.2.1,C2.o.ab (i:=2) rfl⟩) (λau=>?_);refine cP [(7,6)] ?_
   iterate 1 refine bj ?_
   refine wpAnyH_done (by kernel_rfl) ?_ _;clear x1 x2 x3 x4;go_wp2_with fail;refine(fq _ FV.o r8.o _).mono ?_;rintro e _ ⟨rfl,rfl⟩;have R9:=xh (show pD w _ wb tb mb I F n (Kz+40000000) mm (k+1)from pD.of T2.o J.o O2.o (rJ f1.o) (by omega));go_wp2_with fail;go_ret;exact aP R9.o
variable{w:World}{wb tb mb n Kz mm k:Nat}{I:Ix}{F:List Nat}{vl vo:Value}{q:QS}{l o:List PR}
theorem RN(h:TW w wb tb mb I F vl vo q n Kz l o)(hi:TI q l o mm k)(hk:k<100)(hK:Kz<=999900000000)(kd nn:Int)(key az val:ByteArray)(xP:key.size<=100000)(Cm:val.size<=100000)(CA:kd=10):
  Calls prog 15 #[.pointer (some ⟨wb,0,none⟩),.agg (tF kd nn key az val)] w λe w'=>e=.returned (.bool true)/\pD w w' wb tb mb I F n (Kz+40000000) mm (k+1):=by
 have G:=hi.clearM key az;obtain⟨q1,c1,e1,Fe⟩:∃q1 c1 e1,q.gV key az=(q1,c1,e1):=⟨_,_,_,rfl⟩;have KS:=xh (λ(W:World) (hW:TW W wb tb mb I F vl vo q n Kz l o)=>Na hW.t (by omega) key az);rw[Fe]at KS G;dsimp only at KS G;have KM:=xh (λ(W:World) (v:Value) (hW:Mp W mb v l)=>Ni hW key az);unfold tp at KS;clear Fe;obtain⟨T0,CZ,kk,O0⟩:=h.act kd nn key az val;obtain⟨z,hz⟩:∃z,w.heap.size=z:=⟨_,rfl⟩;rw[hz]at CZ kk;have T0:=xh T0;have CZ:=xh CZ
 have kk:=xh kk;have O0:=xh O0;have HZ:=xh hz;have Gq:=xh (And.intro hk hK);clear h hi hk hK hz;have y0:=CZ.o.ab (i:=0) rfl;have y2:=CZ.o.ab (i:=2) rfl;have y3:=CZ.o.ab (i:=3) rfl;obtain⟨x1,x2,x3,x4⟩:=T0.o.cells;have tA:=HZ.o;unfold tF at *;subst CA
 rcases G with⟨g1,J⟩|⟨g1,J⟩
 .have J:=xh (J.le (show k<=k+1 by omega));subst g1;clear KM;go_enter func15,ntmps15;go_wp2_with fail;refine wp_region_held_drew (S:=λW=>W.cell? ⟨wb,2,none⟩=some (.pointer (some ⟨tb,0,none⟩))/\W.cell? ⟨z,2,none⟩=some (.string key)/\W.cell? ⟨z,3,none⟩=some (.string az)) (by kernel_rfl) (⟨x2,y2,y3⟩) (λau=>?_);refine cP [(0,64),(1,65),(2,66),(3,67),(4,68),(5,69),(6,70),(7,71)] ?_
  iterate 8 refine bj ?_
  refine cQ 8 72 λK hK=>?_;go_simp
  go_at_call 22
  refine(KS.o _ T0.o.drew).mono ?_;rintro e w1 ⟨rfl,hp⟩;obtain⟨F1,T1,o1,f1⟩:=T0.o.drew.tree hp;have T1:=xh T1;have C1:=xh (CZ.o.drew.only o1 (λhm=>kk.o (aw _ (aw _ hm))));have O1:=xh (O0.o.drew.trans (o1.mono (λx hx _=>aw _ (aw _ hx))));have f1:=xh (show ∀g∈F1,g∈F\/w.heap.size<=g from λg hg=>(f1 g hg).imp id (λh=>aq O0.o.size h));clear hp o1;go_simp
  refine bz hK (⟨T1.o.cells.2.1,C1.o.ab (i:=2) rfl,C1.o.ab (i:=3) rfl⟩) (λau=>?_);refine cP [(9,63),(10,73),(11,74),(12,7),(13,8)] ?_
  iterate 5 refine bj ?_
  refine wpAnyH_done (by kernel_rfl) ?_ _;clear y0 y2 y3 x1 x2 x3 x4;have y2:=C1.o.ab (i:=2) rfl;have y3:=C1.o.ab (i:=3) rfl;obtain⟨x1,x2,x3,x4⟩:=T1.o.cells;go_wp2_with fail;refine wp_region_held_drew (S:=λW=>W.cell? ⟨wb,3,none⟩=some (.pointer (some ⟨mb,0,none⟩))) (by kernel_rfl) (x3) (λau=>?_);refine cP [(0,76)] ?_
  iterate 1 refine bj ?_
  refine cQ 1 77 λK hK=>?_;go_simp
  go_at_call 18
  refine(eZ _).mono ?_;rintro e _ ⟨rfl,rfl⟩;go_simp;refine bz hK (x3) (λau=>?_);refine cP [(2,78),(3,79)] ?_
  iterate 2 refine bj ?_
  refine cA 4 80 ?_;refine cA 5 81 ?_;refine cA 6 82 ?_;refine cA 7 83 ?_;refine cA 8 84 ?_;refine cA 9 85 ?_;refine cA 10 86 ?_;refine cA 11 87 ?_;refine cA 12 88 ?_;refine cA 13 89 ?_;refine cA 14 90 ?_;refine cP [(15,91)] ?_
  iterate 1 refine bj ?_
  refine wpAnyH_done (by kernel_rfl) ?_ _;have T1:=xh T1.o.drew;have O1:=xh O1.o.drew;go_wp2_with fail;refine(eZ _).mono ?_;rintro e _ ⟨rfl,rfl⟩;have KB:=xh (kS T1.o (by have:=Gq.o;omega) J.o.back.1);clear x1 x2 x3 x4;go_wp2_with fail;refine KB.o.mono ?_;rintro e w9 ⟨rfl,nW,sj,F',T9,o9,f9⟩
  have R9:=xh (show pD w w9 wb tb mb I F n (Kz+40000000) mm (k+1)from pD.of T9 J.o.back.2 (O1.o.aL o9 (λx hx hl=>(aj.1 hx).elim (λe=>by simp[e]) (λh=>(f1.o x h).elim (λh=>by simp[h]) (λh=>by omega)))) (rI f1.o O1.o.size f9) (by omega));clear T9 o9 f9;go_wp2_with fail;go_ret;exact aP R9.o
 .have J:=xh (J.le (show k<=k+1 by omega));have g2:c1=(l.length:Int)-(oV key az l).length:=congrArg Prod.fst g1;have g3:e1=0:=congrArg Prod.snd g1;subst g3;rw[<-g2]at KM;clear g1 g2;go_enter func15,ntmps15;go_wp2_with fail;refine wp_region_held_drew (S:=λW=>W.cell? ⟨wb,2,none⟩=some (.pointer (some ⟨tb,0,none⟩))/\W.cell? ⟨z,2,none⟩=some (.string key)/\W.cell? ⟨z,3,none⟩=some (.string az)) (by kernel_rfl) (⟨x2,y2,y3⟩) (λau=>?_)
  refine cP [(0,64),(1,65),(2,66),(3,67),(4,68),(5,69),(6,70),(7,71)] ?_
  iterate 8 refine bj ?_
  refine cQ 8 72 λK hK=>?_;go_simp
  go_at_call 22
  refine(KS.o _ T0.o.drew).mono ?_;rintro e w1 ⟨rfl,hp⟩;obtain⟨F1,T1,o1,f1⟩:=T0.o.drew.tree hp;have T1:=xh T1;have C1:=xh (CZ.o.drew.only o1 (λhm=>kk.o (aw _ (aw _ hm))));have O1:=xh (O0.o.drew.trans (o1.mono (λx hx _=>aw _ (aw _ hx))));have f1:=xh (show ∀g∈F1,g∈F\/w.heap.size<=g from λg hg=>(f1 g hg).imp id (λh=>aq O0.o.size h));clear hp o1;go_simp
  refine bz hK (⟨T1.o.cells.2.1,C1.o.ab (i:=2) rfl,C1.o.ab (i:=3) rfl⟩) (λau=>?_);refine cP [(9,63),(10,73),(11,74),(12,7),(13,8)] ?_
  iterate 5 refine bj ?_
  refine wpAnyH_done (by kernel_rfl) ?_ _;clear y0 y2 y3 x1 x2 x3 x4;have y2:=C1.o.ab (i:=2) rfl;have y3:=C1.o.ab (i:=3) rfl;obtain⟨x1,x2,x3,x4⟩:=T1.o.cells;go_wp2_with fail;refine wp_region_held_drew (S:=λW=>W.cell? ⟨wb,3,none⟩=some (.pointer (some ⟨mb,0,none⟩))/\W.cell? ⟨z,2,none⟩=some (.string key)/\W.cell? ⟨z,3,none⟩=some (.string az)) (by kernel_rfl) (⟨x3,y2,y3⟩) (λau=>?_);refine cP [(0,76)] ?_
  iterate 1 refine bj ?_
  refine cQ 1 77 λK hK=>?_;go_simp
  go_at_call 18
  refine(fq 0 (by omega) (by omega) _).mono ?_;rintro e _ ⟨rfl,rfl⟩;go_simp;refine bz hK (⟨x3,y2,y3⟩) (λau=>?_);refine cP [(2,78),(3,79),(4,80),(5,81),(6,82),(7,83),(8,84),(9,85),(10,86),(11,87),(12,88)] ?_
  iterate 11 refine bj ?_
  refine cQ 13 89 λK hK=>?_;go_simp
  go_at_call 56
  refine(KM.o _ _ T1.o.drew.m).mono ?_;rintro e w2 ⟨rfl,v2,M2,o2,f2⟩;have T2:=xh (T1.o.drew.map o2 M2);have C2:=xh (C1.o.drew.only o2 (λhm=>kk.o (by simp at hm;simp[hm])));have O2:=xh (O1.o.drew.trans (o2.mono (λx hx _=>by simp at hx;simp[hx])));clear M2 o2 f2;go_simp;refine bz hK (⟨T2.o.cells.2.2.1,C2.o.ab (i:=2) rfl,C2.o.ab (i:=3) rfl⟩) (λau=>?_);refine cP [(14,90),(15,91)] ?_
  iterate 2 refine bj ?_
  refine wpAnyH_done (by kernel_rfl) ?_ _;clear x1 x2 x3 x4;go_wp2_with fail;refine(fq 0 (by omega) (by omega) _).mono ?_;rintro e _ ⟨rfl,rfl⟩;have R9:=xh (show pD w _ wb tb mb I F n (Kz+40000000) mm (k+1)from pD.of T2.o J.o O2.o (rJ f1.o) (by omega));go_wp2_with fail;go_ret;exact aP R9.o
theorem Nn(h:TW w wb tb mb I F vl vo q n Kz l o)(hi:TI q l o mm k)(hk:k<100)(hK:Kz<=999900000000)(kd nn:Int)(key az val:ByteArray)(xP:key.size<=100000)(Cm:val.size<=100000)(CA:kd=11):
  Calls prog 15 #[.pointer (some ⟨wb,0,none⟩),.agg (tF kd nn key az val)] w λe w'=>e=.returned (.bool true)/\pD w w' wb tb mb I F n (Kz+40000000) mm (k+1):=by
 have G:=hi.j0 ⟨_,_,h.t.2.wp,by omega⟩;obtain⟨q1,e1,Fe⟩:∃q1 e1,q.aE=(q1,e1):=⟨_,_,rfl⟩;have KS:=xh (λ(W:World) (hW:TW W wb tb mb I F vl vo q n Kz l o)=>xy hW.t.2 (by omega));rw[Fe]at KS G;dsimp only at KS G;unfold pp at KS;obtain⟨A,c,rfl⟩:=ax h.m.s;clear Fe;obtain⟨T0,CZ,kk,O0⟩:=h.act kd nn key az val;obtain⟨z,hz⟩:∃z,w.heap.size=z:=⟨_,rfl⟩;rw[hz]at CZ kk;have T0:=xh T0;have CZ:=xh CZ;have kk:=xh kk;have O0:=xh O0
 have HZ:=xh hz;have Gq:=xh (And.intro hk hK);clear h hi hk hK hz;have y0:=CZ.o.ab (i:=0) rfl;obtain⟨x1,x2,x3,x4⟩:=T0.o.cells;have tA:=HZ.o;unfold tF at *;have m0:=T0.o.m.b.ab (i:=0) rfl;subst CA
 rcases G with⟨g1,J⟩|⟨g1,J⟩
 .have J:=xh J;subst g1;go_enter func15,ntmps15;go_wp2_with fail;refine(KS.o _ T0.o).mono ?_;rintro e w1 ⟨rfl,hp⟩;obtain⟨F1,T1,o1,f1⟩:=T0.o.tree hp;have T1:=xh T1;have O1:=xh (O0.o.trans (o1.mono (λx hx _=>aw _ (aw _ hx))));have f1:=xh (show ∀g∈F1,g∈F\/w.heap.size<=g from λg hg=>(f1 g hg).imp id (λh=>aq O0.o.size h));clear hp o1 x1 x2 x3 x4 m0;obtain⟨x1,x2,x3,x4⟩:=T1.o.cells
  have m0:=T1.o.m.b.ab (i:=0) rfl;have z4:=T1.o.b.frozen 4 (by simp);have P4:=(ag.refl [wb] w1).setCell (p:=⟨wb,4,none⟩) (λ_=>by simp) (.slice A l.length c);have B4:=T1.o.b.bU 4 (.slice A l.length c);have h4:∀g∈ah (.slice A l.length c),g≠wb:=BC T1.o.m.s T1.o.b (by decide);have hn:=T1.o.m.n
  have T4:=xh (show TW _ wb tb mb I F1 (.slice A l.length c) (.slice A l.length c) q1 n (Kz+40) l l from⟨B4,⟨T1.o.m.b.only P4 (by simpa using T1.o.wm.symm),T1.o.m.s.only P4 (λg hg hm=>h4 g hg (aI.1 hm)),hn⟩,T1.o.m.s.only P4 (λg hg hm=>h4 g hg (aI.1 hm)),T1.o.t.only P4 (λg hg hm=>by
   have e:=aI.1 hm;subst e;exact(aj.1 hg).elim T1.o.wt T1.o.wF),hn⟩)
  have R9:=xh (show pD w _ wb tb mb I F n (Kz+40000000) mm (k+1)from pD.of T4.o J.o (O1.o.trans (P4.mono (λx hx _=>by simp at hx;simp[hx]))) (rJ f1.o) (by omega));clear P4 B4 h4 hn;go_wp2_with fail;refine(fq 0 (by omega) (by omega) _).mono ?_;rintro e _ ⟨rfl,rfl⟩;go_wp2_with fail;go_ret;exact aP R9.o
 .have J:=xh (J.le (show k<=k+1 by omega));subst g1;go_enter func15,ntmps15;go_wp2_with fail;refine(KS.o _ T0.o).mono ?_;rintro e w1 ⟨rfl,hp⟩;obtain⟨F1,T1,o1,f1⟩:=T0.o.tree hp;have T1:=xh T1;have O1:=xh (O0.o.trans (o1.mono (λx hx _=>aw _ (aw _ hx))));have f1:=xh (show ∀g∈F1,g∈F\/w.heap.size<=g from λg hg=>(f1 g hg).imp id (λh=>aq O0.o.size h));clear hp o1 x1 x2 x3 x4 m0
  obtain⟨x1,x2,x3,x4⟩:=T1.o.cells;go_wp2_with fail;refine(eZ _).mono ?_;rintro e _ ⟨rfl,rfl⟩;have KB:=xh (kS T1.o (by have:=Gq.o;omega) J.o.back.1);clear x1 x2 x3 x4;go_wp2_with fail;refine KB.o.mono ?_;rintro e w9 ⟨rfl,nW,sj,F',T9,o9,f9⟩
  have R9:=xh (show pD w w9 wb tb mb I F n (Kz+40000000) mm (k+1)from pD.of T9 J.o.back.2 (O1.o.aL o9 (λx hx hl=>(aj.1 hx).elim (λe=>by simp[e]) (λh=>(f1.o x h).elim (λh=>by simp[h]) (λh=>by omega)))) (rI f1.o O1.o.size f9) (by omega));clear T9 o9 f9;go_wp2_with fail;go_ret;exact aP R9.o
theorem W9(h:TW w wb tb mb I F vl vo q n Kz l o)(hi:TI q l o mm k)(hk:k<100)(hK:Kz<=999900000000)(kd nn:Int)(key az val:ByteArray)(xP:key.size<=100000)(Cm:val.size<=100000)(CA:kd=12):
  Calls prog 15 #[.pointer (some ⟨wb,0,none⟩),.agg (tF kd nn key az val)] w λe w'=>e=.returned (.bool true)/\pD w w' wb tb mb I F n (Kz+40000000) mm (k+1):=by
 have HI:=xh hi;obtain⟨T0,CZ,kk,O0⟩:=h.act kd nn key az val;obtain⟨z,hz⟩:∃z,w.heap.size=z:=⟨_,rfl⟩;rw[hz]at CZ kk;have T0:=xh T0;have CZ:=xh CZ;have kk:=xh kk;have O0:=xh O0;have HZ:=xh hz;have Gq:=xh (And.intro hk hK);clear h hi hk hK hz;have y0:=CZ.o.ab (i:=0) rfl;obtain⟨x1,x2,x3,x4⟩:=T0.o.cells;have tA:=HZ.o;unfold tF at *;subst CA;have J:=xh (HI.o.j.le (show k<=k+1 by omega))
 have KB:=xh (kS T0.o (by have:=Gq.o;omega) J.o.back.1);go_enter func15,ntmps15;go_wp2_with fail;refine KB.o.mono ?_;rintro e w9 ⟨rfl,nW,sj,F',T9,o9,f9⟩;have R9:=xh (show pD w w9 wb tb mb I F n (Kz+40000000) mm (k+1)from pD.of T9 J.o.back.2 (O0.o.trans (o9.mono (λx hx _=>(aj.1 hx).elim (λe=>by simp[e]) (λh=>by simp[h])))) (rI (λg hg=> .inl hg) O0.o.size f9) (by omega));clear T9 o9 f9;go_wp2_with fail;go_ret
 exact aP R9.o
theorem RP(h:TW w wb tb mb I F vl vo q n Kz l o)(hi:TI q l o mm k)(hk:k<100)(hK:Kz<=999900000000)(kd nn:Int)(key az val:ByteArray)(xP:key.size<=100000)(Cm:val.size<=100000)(CA:kd=13):
  Calls prog 15 #[.pointer (some ⟨wb,0,none⟩),.agg (tF kd nn key az val)] w λe w'=>e=.returned (.bool true)/\pD w w' wb tb mb I F n (Kz+40000000) mm (k+1):=by
 obtain⟨G,G2⟩:=hi.xw nn;obtain⟨q1,e1,Fe⟩:∃q1 e1,q.eE nn=(q1,e1):=⟨_,_,rfl⟩;have KS:=xh (λ(W:World) (hW:TW W wb tb mb I F vl vo q n Kz l o)=>L8 hW.t.2 (by omega) nn);rw[Fe]at KS G G2;dsimp only at KS G G2;unfold pp at KS;have G:=xh (G.le (show k<=k+1 by omega));have J:=xh G.o.j;clear Fe;obtain⟨T0,CZ,kk,O0⟩:=h.act kd nn key az val;obtain⟨z,hz⟩:∃z,w.heap.size=z:=⟨_,rfl⟩;rw[hz]at CZ kk;have T0:=xh T0;have CZ:=xh CZ;have kk:=xh kk
 have O0:=xh O0;have HZ:=xh hz;have Gq:=xh (And.intro hk hK);clear h hi hk hK hz;have y0:=CZ.o.ab (i:=0) rfl;have y1:=CZ.o.ab (i:=1) rfl;obtain⟨x1,x2,x3,x4⟩:=T0.o.cells;have tA:=HZ.o;unfold tF at *;subst CA
 rcases G2 with rfl|rfl|rfl
 .go_enter func15,ntmps15;go_wp2_with fail;refine wp_region_held_drew (S:=λW=>W.cell? ⟨wb,1,none⟩=some (.pointer (some ⟨I.pb,0,none⟩))/\W.cell? ⟨z,1,none⟩=some (.int .i64 nn)) (by kernel_rfl) (⟨x1,y1⟩) (λau=>?_);refine cP [(0,117),(1,118),(2,119),(3,120),(4,121),(5,122)] ?_
  iterate 6 refine bj ?_
  refine cQ 6 123 λK hK=>?_;go_simp
  go_at_call 58
  refine(KS.o _ T0.o.drew).mono ?_;rintro e w1 ⟨rfl,p1,o1⟩;have T1:=xh (T0.o.drew.next o1 p1);have C1:=xh (CZ.o.drew.only o1 (λhm=>kk.o (aw _ (aw _ hm))));have O1:=xh (O0.o.drew.trans (o1.mono (λx hx _=>aw _ (aw _ hx))));have f1:=xh (show ∀g∈F,g∈F\/w.heap.size<=g from λg hg=> .inl hg);clear p1 o1;go_simp;refine bz hK (⟨T1.o.cells.1,C1.o.ab (i:=1) rfl⟩) (λau=>?_)
  refine cP [(7,5)] ?_
  iterate 1 refine bj ?_
  refine wpAnyH_done (by kernel_rfl) ?_ _;clear x1 x2 x3 x4;go_wp2_with fail;refine(fq 0 (by omega) (by omega) _).mono ?_;rintro e _ ⟨rfl,rfl⟩;have R9:=xh (show pD w _ wb tb mb I F n (Kz+40000000) mm (k+1)from pD.of T1.o G.o O1.o (rJ f1.o) (by omega));go_wp2_with fail;go_ret;exact aP R9.o
 .go_enter func15,ntmps15;go_wp2_with fail;refine wp_region_held_drew (S:=λW=>W.cell? ⟨wb,1,none⟩=some (.pointer (some ⟨I.pb,0,none⟩))/\W.cell? ⟨z,1,none⟩=some (.int .i64 nn)) (by kernel_rfl) (⟨x1,y1⟩) (λau=>?_);refine cP [(0,117),(1,118),(2,119),(3,120),(4,121),(5,122)] ?_
  iterate 6 refine bj ?_
  refine cQ 6 123 λK hK=>?_;go_simp
  go_at_call 58
  refine(KS.o _ T0.o.drew).mono ?_;rintro e w1 ⟨rfl,p1,o1⟩;have T1:=xh (T0.o.drew.next o1 p1);have C1:=xh (CZ.o.drew.only o1 (λhm=>kk.o (aw _ (aw _ hm))));have O1:=xh (O0.o.drew.trans (o1.mono (λx hx _=>aw _ (aw _ hx))));have f1:=xh (show ∀g∈F,g∈F\/w.heap.size<=g from λg hg=> .inl hg);clear p1 o1;go_simp;refine bz hK (⟨T1.o.cells.1,C1.o.ab (i:=1) rfl⟩) (λau=>?_)
  refine cP [(7,5)] ?_
  iterate 1 refine bj ?_
  refine wpAnyH_done (by kernel_rfl) ?_ _;clear x1 x2 x3 x4;go_wp2_with fail;refine(fq 0 (by omega) (by omega) _).mono ?_;rintro e _ ⟨rfl,rfl⟩;have R9:=xh (show pD w _ wb tb mb I F n (Kz+40000000) mm (k+1)from pD.of T1.o G.o O1.o (rJ f1.o) (by omega));go_wp2_with fail;go_ret;exact aP R9.o
 .go_enter func15,ntmps15;go_wp2_with fail;refine wp_region_held_drew (S:=λW=>W.cell? ⟨wb,1,none⟩=some (.pointer (some ⟨I.pb,0,none⟩))/\W.cell? ⟨z,1,none⟩=some (.int .i64 nn)) (by kernel_rfl) (⟨x1,y1⟩) (λau=>?_);refine cP [(0,117),(1,118),(2,119),(3,120),(4,121),(5,122)] ?_
  iterate 6 refine bj ?_
  refine cQ 6 123 λK hK=>?_;go_simp
  go_at_call 58
  refine(KS.o _ T0.o.drew).mono ?_;rintro e w1 ⟨rfl,p1,o1⟩;have T1:=xh (T0.o.drew.next o1 p1);have C1:=xh (CZ.o.drew.only o1 (λhm=>kk.o (aw _ (aw _ hm))));have O1:=xh (O0.o.drew.trans (o1.mono (λx hx _=>aw _ (aw _ hx))));have f1:=xh (show ∀g∈F,g∈F\/w.heap.size<=g from λg hg=> .inl hg);clear p1 o1;go_simp;refine bz hK (⟨T1.o.cells.1,C1.o.ab (i:=1) rfl⟩) (λau=>?_)
  refine cP [(7,5)] ?_
  iterate 1 refine bj ?_
  refine wpAnyH_done (by kernel_rfl) ?_ _;clear x1 x2 x3 x4;obtain⟨x1,x2,x3,x4⟩:=T1.o.cells;go_wp2_with fail;refine(eZ _).mono ?_;rintro e _ ⟨rfl,rfl⟩;have KB:=xh (kS T1.o (by have:=Gq.o;omega) J.o.back.1);clear x1 x2 x3 x4;go_wp2_with fail;refine KB.o.mono ?_;rintro e w9 ⟨rfl,nW,sj,F',T9,o9,f9⟩
  have R9:=xh (show pD w w9 wb tb mb I F n (Kz+40000000) mm (k+1)from pD.of T9 J.o.back.2 (O1.o.aL o9 (λx hx hl=>(aj.1 hx).elim (λe=>by simp[e]) (λh=>(f1.o x h).elim (λh=>by simp[h]) (λh=>by omega)))) (rI f1.o O1.o.size f9) (by omega));clear T9 o9 f9;go_wp2_with fail;go_ret;exact aP R9.o
theorem tdo_ask(h:TW w wb tb mb I F vl vo q n Kz l o)(hi:TI q l o mm k)(hk:k<100)(hK:Kz<=999900000000)(kd nn:Int)(key az val:ByteArray)(xP:key.size<=100000)(Cm:val.size<=100000)(CA:¬kd=0/\¬kd=1/\¬kd=2/\¬kd=3/\¬kd=4/\¬kd=5/\¬kd=6/\¬kd=10/\¬kd=11/\¬kd=12/\¬kd=13):
  Calls prog 15 #[.pointer (some ⟨wb,0,none⟩),.agg (tF kd nn key az val)] w λe w'=>e=.returned (.bool true)/\pD w w' wb tb mb I F n (Kz+40000000) mm (k+1):=by
 have HI:=xh (hi.le (show k<=k+1 by omega));obtain⟨n0,n1,n2,n3,n4,n5,n6,n10,n11,n12,n13⟩:=CA;obtain⟨T0,CZ,kk,O0⟩:=h.act kd nn key az val;obtain⟨z,hz⟩:∃z,w.heap.size=z:=⟨_,rfl⟩;rw[hz]at CZ kk;have T0:=xh T0;have CZ:=xh CZ;have kk:=xh kk;have O0:=xh O0;have HZ:=xh hz;have Gq:=xh (And.intro hk hK);clear h hi hk hK hz;have y0:=CZ.o.ab (i:=0) rfl;have y1:=CZ.o.ab (i:=1) rfl;have y2:=CZ.o.ab (i:=2) rfl
 have y3:=CZ.o.ab (i:=3) rfl;have y4:=CZ.o.ab (i:=4) rfl;obtain⟨x1,x2,x3,x4⟩:=T0.o.cells;have tA:=HZ.o;unfold tF at *;have KA:=xh (RM T0.o HI.o (by have:=Gq.o;omega) (by have:=Gq.o;omega) kd nn key az val);unfold tF at KA;go_enter func15,ntmps15;go_wp2_with fail;refine KA.o.mono ?_;rintro e w9 ⟨rfl,nW,sj,F',Sg,q',l',T9,J9,o9,f9⟩
 have R9:=xh (show pD w w9 wb tb mb I F n (Kz+40000000) mm (k+1)from pD.of T9 J9 (O0.o.trans (o9.mono (λx hx _=>(aj.1 hx).elim (λe=>by simp[e]) (λh=>by simp[h])))) (λg hg=>(f9 g hg).imp id (λh=>aq O0.o.size h)) (by omega));clear T9 J9 o9 f9;go_wp2_with fail;go_ret;exact aP R9.o
theorem tdo_any(h:TW w wb tb mb I F vl vo q n Kz l o)(hi:TI q l o mm k)(hk:k<100)(hK:Kz<=999900000000)(kd nn:Int)(key az val:ByteArray)(xP:key.size<=100000)(Cm:val.size<=100000):
  Calls prog 15 #[.pointer (some ⟨wb,0,none⟩),.agg (tF kd nn key az val)] w λe w'=>e=.returned (.bool true)/\pD w w' wb tb mb I F n (Kz+40000000) mm (k+1):=by
 by_cases a0:kd=0;exact uN h hi hk hK kd nn key az val xP Cm (by omega)
 by_cases a1:kd=1;exact uN h hi hk hK kd nn key az val xP Cm (by omega)
 by_cases a2:kd=2;exact uN h hi hk hK kd nn key az val xP Cm (by omega)
 by_cases a3:kd=3;exact uN h hi hk hK kd nn key az val xP Cm (by omega)
 by_cases a4:kd=4;exact uN h hi hk hK kd nn key az val xP Cm (by omega)
 by_cases a5:kd=5;exact Pj h hi hk hK kd nn key az val xP Cm (by omega)
 by_cases a6:kd=6;exact Pj h hi hk hK kd nn key az val xP Cm (by omega)
 by_cases a10:kd=10;exact RN h hi hk hK kd nn key az val xP Cm a10
 by_cases a11:kd=11;exact Nn h hi hk hK kd nn key az val xP Cm a11
 by_cases a12:kd=12;exact W9 h hi hk hK kd nn key az val xP Cm a12
 by_cases a13:kd=13;exact RP h hi hk hK kd nn key az val xP Cm a13
 exact tdo_ask h hi hk hK kd nn key az val xP Cm ⟨a0,a1,a2,a3,a4,a5,a6,a10,a11,a12,a13⟩
open Go.RowKit Go.ChangeShapes Go.WideShapes Go.Deep Pk Dk Pg
variable{w w':World}{n:Nat}
instance:Inhabited WY:=⟨⟨0,0,.empty,.empty,.empty⟩⟩
structure Np(w:World)(ad:Addr)(a:WY):Prop where
 c0:w.cell? ad=some (.int .i64 a.kd)
 c1:w.cell? ⟨ad.block,ad.off+1,none⟩=some (.int .i64 a.n)
 c2:w.cell? ⟨ad.block,ad.off+2,none⟩=some (.string a.key)
 c3:w.cell? ⟨ad.block,ad.off+3,none⟩=some (.string a.az)
 c4:w.cell? ⟨ad.block,ad.off+4,none⟩=some (.string a.val)
def BF(w:World)(A:Option Addr)(n:Nat)(F:Nat->WY):Prop:= ∀k,k<n->∃ad,A=some ad/\Np w (ad.add (k*5)) (F k)
theorem Np.below{ad:Addr}{a:WY}(h:Np w ad a)(hb:Below w.heap.size w w'):Np w' ad a:=by
 have dP:=eg h.c0;have e:∀j:Nat,w'.cell? ⟨ad.block,ad.off+j,none⟩=w.cell? ⟨ad.block,ad.off+j,none⟩:=λj=>hb.cell (p:=⟨ad.block,ad.off+j,none⟩) dP;exact⟨(hb.cell dP).trans h.c0,(e 1).trans h.c1,(e 2).trans h.c2,(e 3).trans h.c3,(e 4).trans h.c4⟩
theorem BF.below{A:Option Addr}{F:Nat->WY}(h:BF w A n F)(hb:Below w.heap.size w w'):BF w' A n F:=by
 intro k hk;obtain⟨ad,e,h1⟩:=h k hk;exact⟨ad,e,h1.below hb⟩
theorem add_att(a:Addr)(i j:Nat)(hj:0<j):(a.add i).add j=⟨(a.add i).block,(a.add i).off+j,none⟩:=by
 rw[Addr.add,if_neg (by omega)]
theorem RQ(a:Addr):a.add 0=a:=by simp[Addr.add]
theorem Nq{α:Type}[Inhabited α]{p:Nat->α->Prop}(h:∀k,k<n->∃x,p k x):∃F:Nat->α,∀k,k<n->p k (F k):=by
 refine⟨λk=>if hk:k<n then Classical.choose (h k hk)else default,λk hk=>?_⟩;show p k (if hk:k<n then Classical.choose (h k hk)else default);rw[dif_pos hk];exact Classical.choose_spec (h k hk)
theorem Xa{H:Type}{enc:TypeId×Value->H}{base:Nat}{v:Value}{d:DataW H}{ps:List MemPlace}(fT:Value.okWide prog w .any base 22 v)(h:DataW.Trod enc prog w 0 (λ_=>true) true 22 v d ps):
  ∃(A:Option Addr) (n c:Nat) (F:Nat->WY),v=.slice A n c/\n<=9223372036854775807/\BF w A n F:=by
 obtain⟨a0,len,cap,rfl⟩:=Go.WideShapes.okWide_slice underlying22 fT;obtain⟨fuel,hf⟩:=h;have hce:prog.cellsOf 28=5:=by kernel_rfl
 rcases open_slice underlying22 hf with⟨JC,_⟩|⟨a,len',Gw,m,n,D,Pl,JC,_,hl,hm,hmm,_,nm⟩
 .simp[Value.cells]at JC;obtain⟨rfl,rfl,rfl⟩:=JC;exact⟨none,0,0,λ_=>default,rfl,bf _,λk hk=>absurd hk (by omega)⟩
 .simp[Value.cells]at JC;obtain⟨rfl,rfl,rfl⟩:=JC;simp at hmm;have each:∀k,k<len->∃x:WY,Np w (a.add (k*5)) x:=by
   intro k hk;obtain⟨cs',JC,FY⟩:=nm k (by omega);rw[hce]at JC;obtain⟨_,_,MX⟩:=World.cells?_some JC;obtain⟨y,rfl,_⟩:=RK underlying28 (by kernel_rfl) rfl rfl rfl rfl rfl (by kernel_rfl) (by kernel_rfl) (by kernel_rfl) (by kernel_rfl) (by kernel_rfl) underlying3 underlying3 underlying9 underlying9 underlying9 FY;have g0:=MX 0 (by omega);have g1:=MX 1 (by omega);have g2:=MX 2 (by omega);have g3:=MX 3 (by omega);have g4:=MX 4 (by omega)
   rw[RQ]at g0;rw[add_att _ _ _ (by omega)]at g1 g2 g3 g4;exact⟨y,g0,g1,g2,g3,g4⟩
  obtain⟨F,hF⟩:=Nq (p:=λk x=>Np w (a.add (k*5)) x) each;exact⟨some a,len,cap,F,rfl,by unfold maxLen at hm;omega,λk hk=>⟨a,rfl,hF k hk⟩⟩
theorem JA(kd nn:Int)(key az val:ByteArray)(w:World)(b:Bool)(hb:b=decide (key.size<200/\az.size<200/\val.size<3000)):Calls prog 14 #[.agg #[.int .i64 kd,.int .i64 nn,.string key,.string az,.string val]] w λe w'=>e=.returned (.bool b)/\Below w.heap.size w w':=by
 have B0:=xh (aF.new w 28 (tF kd nn key az val));have O0:=xh (ae (Below.refl w.heap.size w) (.cells (tF kd nn key az val) 28));have y2:=B0.o.ab (i:=2) rfl;have y3:=B0.o.ab (i:=3) rfl;have y4:=B0.o.ab (i:=4) rfl;unfold tF at *
 by_cases h1:key.size<200
 .have Sf:(key.size:Int)<200:=by omega
  by_cases h2:az.size<200
  .have h2I:(az.size:Int)<200:=by omega
   by_cases h3:val.size<3000
   .have h3I:(val.size:Int)<3000:=by omega
    rw[decide_eq_true ⟨h1,h2,h3⟩]at hb;subst hb;clear h1 h2 h3;go_enter func14,ntmps14;go_wp2_with fail;go_ret;exact aP O0.o
   .have h3I:¬(val.size:Int)<3000:=by omega
    rw[decide_eq_false (λh=>h3 h.2.2)]at hb;subst hb;clear h1 h2 h3;go_enter func14,ntmps14;go_wp2_with fail;go_ret;exact aP O0.o
  .have h2I:¬(az.size:Int)<200:=by omega
   rw[decide_eq_false (λh=>h2 h.2.1)]at hb;subst hb;clear h1 h2;go_enter func14,ntmps14;go_wp2_with fail;go_ret;exact aP O0.o
 .have Sf:¬(key.size:Int)<200:=by omega
  rw[decide_eq_false (λh=>h1 h.1)]at hb;subst hb;clear h1;go_enter func14,ntmps14;go_wp2_with fail;go_ret;exact aP O0.o
variable{w wr:World}{wb n pg i:Nat}{I:Ix}
def Nr(w wr:World)(wb n pg:Nat)(I:Ix)(i:Nat):Prop:= ∃tb mb F vl vo q l o,TW wr wb tb mb I F vl vo q n (50+40000000*i) l o/\TI q l o pg i/\Below w.heap.size w wr/\∀g∈wb::mb::tb::F,w.heap.size<=g
theorem Nr.below{w':World}(h:Nr w wr wb n pg I i)(hb:Below wr.heap.size wr w'):Nr w w' wb n pg I i:=by
 obtain⟨tb,mb,F,vl,vo,q,l,o,T,hi,b,f⟩:=h;exact⟨tb,mb,F,vl,vo,q,l,o,T.below hb,hi,aC b hb,f⟩
theorem Nr.succ(h:Nr w wr wb n pg I i):Nr w wr wb n pg I (i+1):=by
 obtain⟨tb,mb,F,vl,vo,q,l,o,T,hi,b,f⟩:=h;exact⟨tb,mb,F,vl,vo,q,l,o,T.le (by omega),hi.le (by omega),b,f⟩
theorem Nr.b(h:Nr w wr wb n pg I i):Below w.heap.size w wr:=by
 obtain⟨tb,mb,F,vl,vo,q,l,o,T,hi,b,f⟩:=h;exact b
theorem Nr.do_(h:Nr w wr wb n pg I i)(hi:i<100)(kd nn:Int)(key az val:ByteArray)(hs:key.size<200/\az.size<200/\val.size<3000):
  Calls prog 15 #[.pointer (some ⟨wb,0,none⟩),.agg #[.int .i64 kd,.int .i64 nn,.string key,.string az,.string val]] wr λe w'=>e=.returned (.bool true)/\Nr w w' wb n pg I (i+1):=by
 obtain⟨tb,mb,F,vl,vo,q,l,o,T,ti,b,f⟩:=h;refine(tdo_any T ti hi (by omega) kd nn key az val (by omega) (by omega)).mono λe w' ⟨r,nW,sj,F',Sg,vo',q',l',o',T',ti',ho,fr⟩=>⟨r,nW,sj,F',Sg,vo',q',l',o',T'.le (by omega),ti',b.trans (ho.aJ b.size (λx hx=>f x (by simp only[aj]at hx ⊢;rcases hx with h|h|h<;>simp[h]))),λg hg=>?_⟩
 rcases aj.1 hg with h|h
 .exact f g (by simp[h])
 .exact(fr g h).elim (λh=>f g (aw _ h)) (λh=>aq b.size h)
theorem Ns(w:World)(fr pg:Nat)(f1:1<=fr)(f2:fr<=32)(p1:4<=pg)(p2:pg<=1000):
  Calls prog 12 #[.int .i64 (fr:Nat),.int .i64 (pg:Nat)] w λe w'=> ∃wb I,e=.returned (.pointer (some ⟨wb,0,none⟩))/\Nr w w' wb (2+4*pg) pg I 0:=by
 refine(Bx w fr pg f1 f2 p1 p2).mono λe w' ⟨wb,tb,mb,I,F,r,B,M,T,R,b,f⟩=>⟨wb,I,r,tb,mb,F,.slice none 0 0,.slice none 0 0,_,[],[],⟨B,⟨M,aS.nil _ _ _,by simp⟩,aS.nil _ _ _,T,by simp⟩,TI.start R WK,b,λg hg=>f g ?_⟩;simp only[aj]at hg ⊢
 rcases hg with h|h|h|h<;>simp[h]
theorem Nt(n:Nat)(h0:1<=n)(h:n<=1000000)(w:World):Calls prog 27 #[.int .i64 (n:Nat)] w λe w'=>e=.returned (.int .i64 (eF n))/\w=w':=by
 go_enter func27,ntmps27;go_wp2_with fail
 go_loopw [0,3] (λnv kv wr=> ∃j:Nat,228*j<n/\nv=.int .i64 ((n-228*j:Nat):Int)/\kv=.int .i64 ((j+1:Nat):Int)/\w=wr) (λnv _ _=>(intOf nv).toNat)
 case atStart=>exact⟨0,by omega,rfl,rfl,rfl⟩
 case round=>
  obtain⟨j,hj,rfl,rfl,rfl⟩:=hrel
  by_cases h1:228<n-228*j
  .have Sf:(228:Int)<((n-228*j:Nat):Int):=by omega
   have e1:IntKind.i64.wrap (((n-228*j:Nat):Int)-228)=((n-228*(j+1):Nat):Int):=by rw[IntWalk.i64_in _ (by omega)];omega
   have e2:IntKind.i64.wrap (((j+1:Nat):Int)+1)=((j+1+1:Nat):Int):=by rw[IntWalk.i64_in _ (by omega)];omega
   have HX:=xh h1;generalize hX:((n-228*j:Nat):Int)=X at *;generalize ((j+1:Nat):Int)=Y at *;have HX:=xh hX;clear hX h1;go_wp2_with fail;go_roundw
   case rel=>exact⟨j+1,by have:=HX.o;omega,rfl,by go_num,trivial⟩
   case measure=>have:=HX.o;simp[intOf];omega
  .have Sf:¬(228:Int)<((n-228*j:Nat):Int):=by omega
   have e3:eF n=((j+1:Nat):Int):=by unfold eF;omega
   generalize ((n-228*j:Nat):Int)=X at *;generalize ((j+1:Nat):Int)=Y at *;have HE:=xh e3;clear e3 h1;go_wp2_with fail;go_ret;exact⟨by rw[HE.o];rfl,rfl⟩
theorem Ea(a b:List PR):jf (a++b)=jf a+jf b:=by unfold jf;rw[ez,tM]
theorem Nu{l:List PR}{i:Nat}{x:PR}(h:l[i]?=some x):jf (l.take (i+1))=jf (l.take i)+if 40<x.2.size then(eF x.2.size).toNat else 0:=by
 obtain⟨hi,rfl⟩:=aM.1 h;rw[gy hi,Ea];rfl
theorem Xb(l:List PR)(i:Nat):jf (l.take i)<=jf l:=by
 have h:jf l=jf (l.take i)+jf (l.drop i):=by rw[<-Ea,kW]
 omega
theorem Nr.shape{w wr:World}{wb n i:Nat}{I:Ix}(h:Nr w wr wb n 420 I i)(hi:i<=60):∃tb mb F vl vo q l o a b c d,TW wr wb tb mb I F vl vo q n (50+40000000*i) l o/\ShP q l (kL 16 q 0 0) a b c d/\l.length<=60/\Below w.heap.size w wr/\∀g∈wb::mb::tb::F,w.heap.size<=g:=by
 obtain⟨tb,mb,F,vl,vo,q,l,o,T,ti,b,f⟩:=h;obtain⟨x,y,c,d,S⟩:=ti.shape hi;exact⟨tb,mb,F,vl,vo,q,l,o,x,y,c,d,T,S,by have:=ti.sorted.2;omega,b,f⟩
theorem Cs{w:World}(A:Option Addr)(m cc:Nat)(F:Nat->WY)(hm:m<=9223372036854775807)(hA:BF w A m F):
  Calls prog 6 #[.slice A m cc] w λe w'=>e=.returned (.bool true)/\Below w.heap.size w w':=by
 have KB:=xh (Ns w 6 420 (by omega) (by omega) (by omega) (by omega));have KA:=xh Jz;have HA:=xh (λ(W:World) (hb:Below w.heap.size w W)=>hA.below hb);have KS:=xh JA;have KN:=xh Nt;clear hA;go_enter func6,ntmps6;go_wp2_with fail;refine KB.o.mono ?_;rintro e w1 ⟨wb,I,rfl,P1⟩;have P1:=xh P1;go_wp2_with fail;refine(KA.o w1).mono ?_;rintro e w2 ⟨rfl,dn⟩;have P2:=xh (P1.o.below dn);clear dn;go_wp2_with fail
 go_loopw [4] (λiv wr=> ∃i:Nat,i<=60/\iv=.int .i64 i/\Hid (Nr w wr wb (2+4*420) 420 I i)) (λiv _=>60-(intOf iv).toNat)
 case atStart=>exact⟨0,bf _,rfl,P2⟩
 case round=>
  obtain⟨i,hi,rfl,HP⟩:=hrel
  by_cases h12:i<m/\i<60
  .have Sf:(i:Int)<(m:Int):=by omega
   have h2I:(i:Int)<60:=by omega
   obtain⟨ad,rfl,hSa⟩:=HA.o wr HP.o.b i h12.1;obtain⟨c0,c1,c2,c3,c4⟩:=hSa;have HC:=xh (show ∀W,Below w.heap.size w W->Np W (ad.add (i*5)) (F i)from λW hb=>by
    obtain⟨ad',e,h⟩:=HA.o W hb i h12.1;injection e with e
    rw[e];exact h)
   generalize F i=sa at c0 c1 c2 c3 c4 HC;obtain⟨kd,nn,key,az,val⟩:=sa;dsimp only at c0 c1 c2 c3 c4;obtain⟨bb,yg⟩:∃bb,decide (key.size<200/\az.size<200/\val.size<3000)=bb:=⟨_,rfl⟩;have KS2:=xh (λ(W:World)=>KS.o kd nn key az val W bb yg.symm);have ei:IntKind.i64.wrap ((i:Int)+1)=((i+1:Nat):Int):=IntWalk.i64_in _ (by omega);have HBB:=xh yg;clear yg;go_wp2_with fail;refine(KS2.o _).mono ?_;rintro e w3 ⟨rfl,gr⟩;have P3:=xh (HP.o.below gr);clear gr c0 c1 c2 c3 c4
   cases bb
   .have P4:=xh P3.o.succ;go_wp2_with fail;go_roundw
    case rel=>exact⟨i+1,by omega,by go_num,P4⟩
    case measure=>simp[intOf];omega
   .have KD:=xh (P3.o.do_ (by omega) kd nn key az val (of_decide_eq_true HBB.o));obtain⟨c0,c1,c2,c3,c4⟩:=HC.o w3 P3.o.b;dsimp only at c0 c1 c2 c3 c4;go_wp2_with fail;refine KD.o.mono ?_;rintro e w4 ⟨rfl,P4⟩;have P4:=xh P4;clear c0 c1 c2 c3 c4;go_wp2_with fail;go_roundw
    case rel=>exact⟨i+1,by omega,by go_num,P4⟩
    case measure=>simp[intOf];omega
  .obtain⟨tb,mb,F1,vl,vo,q,l,o,a,b,c,d,T,SH,hl,hb,hf⟩:=HP.o.shape hi;obtain⟨A1,cl,rfl⟩:=ax T.m.s;have KH:=xh (MH T.t (by omega));have HS:=xh SH;have HT:=xh T;have HB:=xh hb;have HF:=xh hf;obtain⟨x1,x2,x3,x4⟩:=T.cells;have x0:=T.m.b.ab (i:=0) rfl;generalize kL 16 q 0 0=R at *;obtain⟨q1,u1,s1,e1⟩:=R;have FV:=SH.e;have hs1:=SH.s;dsimp only at FV hs1;subst FV hs1;dsimp only at KH;unfold tp at KH;clear T SH hb hf
   rcases dX i m with h1|h1
   have Sf:(i:Int)<(m:Int):=by omega
   have h2I:¬(i:Int)<60:=by omega
   rotate_left;have Sf:¬(i:Int)<(m:Int):=by omega
   all_goals
    clear h12 h1;go_wp2_with fail;refine KH.o.mono ?_;rintro e w3 ⟨rfl,P3,o3⟩;obtain⟨F3,T3,_,f3⟩:=HT.o.tree (.self P3 o3);have B3:=xh (show Below w.heap.size w w3 from HB.o.trans (o3.aJ HB.o.size λx hx=>HF.o x (by simp[hx])));clear P3 o3 x1 x2 x3 x4 x0 f3;obtain⟨x1,x2,x3,x4⟩:=T3.cells;have x0:=T3.m.b.ab (i:=0) rfl;have KT:=xh (Ab T3.t.2);have KP:=xh (Ad T3.t.2);have HT:=xh T3;have d1:=HS.o.d1;clear T3;unfold pp sp at *
    go_wp2_with fail
    go_loopw [10,11] (λnv iv wr=> ∃j:Nat,j<=l.length/\iv=.int .i64 (j:Nat)/\nv=.int .i64 (jf (l.take j):Nat)/\w3=wr) (λ_ iv _=>l.length-(intOf iv).toNat)
    case atStart=>exact⟨0,bf _,rfl,rfl,rfl⟩
    case round=>
     obtain⟨j,hj,rfl,rfl,rfl⟩:=hrel
     by_cases hjl:j<l.length
     .obtain⟨g,x,rfl,hx,Fl,hc2,y1,y2⟩:=aS.pr HT.o.m.s hjl;have hjI:(j:Int)<(l.length:Int):=by omega
      have hj0:¬(j:Int)<0:=by omega
      have hs:=HS.o.vs x (ay hx);have hp:=Nu hx;have hle:=Xb l (j+1);have hc:=HS.o.c1
      by_cases h40:40<x.2.size
      .have h40I:(40:Int)<(x.2.size:Int):=by omega
       have KN2:=xh (KN.o x.2.size (by omega) (by omega) w3);have Sc:eF x.2.size=((eF x.2.size).toNat:Nat):=by unfold eF;omega
       rw[if_pos h40]at hp;have ew:IntKind.i64.wrap (((jf (l.take j):Nat):Int)+eF x.2.size)=((jf (l.take (j+1)):Nat):Int):=by rw[IntWalk.i64_in _ (by omega)];omega
       generalize eF x.2.size=cn at *;generalize Gt:jf (l.take (j+1))=N2 at *;generalize jf (l.take j)=N1 at *;have HX:=xh Gt;clear Gt;clear Sc hp hle hc hs h40 hx;go_wp2_with fail;refine KN2.o.mono ?_;rintro e w4 ⟨rfl,rfl⟩;go_wp2_with fail;exact⟨⟨j+1,by omega,by go_num,by rw[HX.o],trivial⟩,by simp[intOf];omega⟩
      .have h40I:¬(40:Int)<(x.2.size:Int):=by omega
       have HX:=xh (show jf (l.take (j+1))=jf (l.take j) by rw[hp,if_neg h40];rfl);clear hp hle hc hs h40 hx;go_wp2_with fail;exact⟨⟨j+1,by omega,by go_num,by rw[HX.o],trivial⟩,by simp[intOf];omega⟩
     .obtain rfl:j=l.length:=by omega
      rw[fL];have hc:=HS.o.c1;rw[<-hc];have j1:(1:Int)<=(a:Int):=by have:=HS.o.a1;omega
      have j2:(a:Int)<=max (l.length:Int) 1:=by have:=HS.o.a2;omega
      have j3:IntKind.i64.wrap (d:Int)=(d:Int):=IntWalk.i64_in _ (by omega);have hbd:=HS.o.b1;have hpg:=HS.o.g;have hmd:a*d<=512*15:=Nat.mul_le_mul d1.1 d1.2.2.2;obtain⟨ad,oZ⟩:∃ad:Int,((a*d:Nat):Int)=ad:=⟨_,rfl⟩;have j4:IntKind.i64.wrap ((a:Int)*(d:Int))=ad:=by rw[<-Int.natCast_mul,IntWalk.i64_in _ (by omega)];exact oZ
      have j5:(b:Int)<=ad:=by omega
      have j6:IntKind.i64.wrap ((a:Int)+(b:Int))=(a:Int)+(b:Int):=IntWalk.i64_in _ (by omega);have j7:IntKind.i64.wrap ((a:Int)+(b:Int)+(c:Int))=(a:Int)+(b:Int)+(c:Int):=IntWalk.i64_in _ (by omega);dsimp only at hpg;rw[hpg]at KP;have HJ:=xh hc;clear hc hpg hbd hmd d1 oZ;go_wp2_with fail;refine KT.o.mono ?_;rintro e w4 ⟨rfl,rfl⟩;go_wp2_with fail;refine KP.o.mono ?_;rintro e w5 ⟨A5,c5,rfl,_,oF⟩;have B5:=xh (aC B3.o oF);clear oF;go_wp2_with fail;go_ret;exact aP B5.o
end Sh
end Go.Proofs.YtmonobkginiajaaGreat
