/- packed. -/
import Derived.Deep.RegionHeld
import Derived.Test.YtmonobkginiajaaGreatRows
import Derived.WalkKit
import Derived.ProofKit
import Derived.OpenShut
import Derived.SizedLaws
import Derived.JoinedCond
import Derived.WalkLawsBesides
import Derived.WalkSpells
import Derived.Lib.Hide
import Derived.Laws.CopyOwn
import Derived.Deep.Draws
import Derived.Laws.Rows
import Derived.SliceStrings
import Derived.OrdersHeld
set_option linter.all false
set_option maxRecDepth 100000
set_option maxHeartbeats 8000000
namespace Go
theorem RowKit.Hid.o{p:Prop}(h:RowKit.Hid p):p:=h
theorem Shut.o{p:Prop}(h:Shut p):p:=h
end Go
namespace Go.Proofs.YtmonobkginiajaaGreat
theorem xh{p:Prop}(h:p):RowKit.Hid p:=h
def Gc:=@Array.length_toList
def Gd:=@Array.toList_extract
def mK:=@Array.toList_inj
def jL:=@Bool.and_eq_true
def lu:=@Bool.false_eq_true
def xG:=@Bool.or_eq_true
def Ge:=@Bool.true_and
def Gf:=@ByteArray.data_extract
def nF:=@ByteArray.ext
def xH:=@ByteArray.size_append
def oS:=@ByteArray.size_extract
def dn:=@Int.eq_ofNat_of_zero_le
def gE:=@Int.le_refl
def zU:=@Int.tdiv_eq_ediv_of_nonneg
def eJ:=@Int.toNat_natCast
def ry:=@List.all_eq_true
def cN:=@List.append_assoc
def zV:=@List.append_eq_nil_iff
def jx:=@List.append_nil
def mR:=@List.cons_append
def zW:=@List.countP_append
def oT:=@List.countP_congr
def rz:=@List.countP_eq_length_filter
def vJ:=@List.countP_map
def vK:=@List.drop_append_of_le_length
def fY:=@List.drop_drop
def zX:=@List.drop_eq_getElem_cons
def jY:=@List.drop_eq_nil_of_le
def mS:=@List.drop_left
def vL:=@List.drop_zero
def mT:=@List.eq_nil_of_length_eq_zero
def vM:=@List.eq_nil_or_concat
def rA:=@List.eq_of_mem_replicate
def rB:=@List.exists_mem_of_ne_nil
def rC:=@List.ext_getElem
def jZ:=@List.ext_getElem?
def zY:=@List.extract_eq_take_drop
def zZ:=@List.filter_eq_self
def Aa:=@List.filter_filter
def Ab:=@List.filter_sublist
def Ad:=@List.findIdx_cons
def mU:=@List.findIdx_getElem
def kC:=@List.findIdx_le_length
def oU:=@List.flatMap_append
def ie:=@List.flatMap_cons
def Ae:=@List.foldl_cons
def ig:=@List.getD_eq_getElem?_getD
def bx:=@List.getElem?_append_left
def dF:=@List.getElem?_append_right
def Af:=@List.getElem?_cons_succ
def vN:=@List.getElem?_cons_zero
def gF:=@List.getElem?_drop
def aN:=@List.getElem?_eq_getElem
def fN:=@List.getElem?_eq_none
def aR:=@List.getElem?_eq_some_iff
def iR:=@List.getElem?_map
def kD:=@List.getElem?_of_mem
def vO:=@List.getElem?_replicate
def fq:=@List.getElem?_set
def eK:=@List.getElem?_set_ne
def cD:=@List.getElem?_set_self
def Ag:=@List.getElem?_take
def oV:=@List.getElem?_take_of_lt
def cW:=@List.getElem?_toArray
def Ah:=@List.getElem_cons_succ
def ij:=@List.getElem_mem
def ly:=@List.getElem_of_mem
def vP:=@List.getElem_range
def Ai:=@List.insertIdx_succ_cons
def aU:=@List.length_append
def ik:=@List.length_cons
def dg:=@List.length_drop
def rD:=@List.length_insertIdx
def j0:=@List.length_map
def vQ:=@List.length_nil
def rE:=@List.length_pos_iff
def eL:=@List.length_replicate
def bI:=@List.length_set
def lz:=@List.length_singleton
def cE:=@List.length_take
def eh:=@List.map_append
def jy:=@List.map_congr_left
def eX:=@List.map_cons
def oW:=@List.map_map
def mV:=@List.map_nil
def oX:=@List.map_set
def rF:=@List.map_take
def aS:=@List.mem_append
def bX:=@List.mem_append_left
def bV:=@List.mem_append_right
def aD:=@List.mem_cons
def bY:=@List.mem_cons_of_mem
def gG:=@List.mem_cons_self
def Aj:=@List.mem_filter
def mW:=@List.mem_flatMap
def Ak:=@List.mem_iff_getElem?
def oY:=@List.mem_insertIdx
def eo:=@List.mem_map
def vR:=@List.mem_map_of_mem
def aA:=@List.mem_of_getElem?
def nG:=@List.mem_of_mem_drop
def vS:=@List.mem_of_mem_tail
def vT:=@List.mem_of_mem_take
def qQ:=@List.mem_or_eq_of_mem_set
def kE:=@List.mem_range
def cg:=@List.mem_singleton
def eA:=@List.nil_append
def fT:=@List.nodup_append
def kF:=@List.nodup_cons
def lW:=@List.nodup_nil
def gH:=@List.not_mem_nil
def vU:=@List.not_of_lt_findIdx
def da:=@List.pairwise_append
def du:=@List.pairwise_cons
def vV:=@List.pairwise_iff_getElem
def vW:=@List.pairwise_singleton
def nH:=@List.replicate_succ'
def vX:=@List.replicate_zero
def nI:=@List.setIfInBounds_toArray
def qR:=@List.set_append_left
def qS:=@List.set_append_right
def gI:=@List.set_set
def nJ:=@List.singleton_append
def iz:=@List.size_toArray
def qT:=@List.sum_append
def iA:=@List.sum_cons
def iB:=@List.tail_cons
def jM:=@List.take_append_drop
def lX:=@List.take_append_of_le_length
def lY:=@List.take_left
def jN:=@List.take_length
def bK:=@List.take_of_length_le
def qU:=@List.take_succ_cons
def iC:=@List.take_succ_eq_append_getElem
def fU:=@List.take_zero
def qV:=@Nat.add_comm
def nK:=@Nat.add_sub_cancel
def iD:=@Nat.add_zero
def nL:=@Nat.le_of_succ_le_succ
def ak:=@Nat.le_refl
def au:=@Nat.le_trans
def qW:=@Nat.lt_irrefl
def nM:=@Nat.lt_of_lt_of_le
def dZ:=@Nat.lt_or_ge
def lZ:=@Nat.lt_succ_iff_lt_or_eq
def qX:=@Nat.min_eq_left
def l5:=@Nat.mod_lt
def qY:=@Nat.mod_two_eq_zero_or_one
def l6:=@Nat.mul_add
def nN:=@Nat.mul_le_mul_left
def qZ:=@Nat.mul_zero
def q5:=@Nat.not_lt
def jO:=@Nat.not_lt_zero
def vY:=@Nat.pow_le_pow_right
def eB:=@Nat.sub_self
def bu:=@Nat.zero_add
def bq:=@Nat.zero_le
def q7:=@Nat.zero_mul
def kG:=@Option.getD_some
def jP:=@Option.map_some
def ja:=@Prod.ext
def q8:=@UInt8.lt_iff_toNat_lt
def fV:=@UInt8.toNat_ofNat'
end Go.Proofs.YtmonobkginiajaaGreat
namespace Go.Proofs.YtmonobkginiajaaGreat
open Go.ChangeShapes Go.WideShapes Go.ChangeAt Go.RowKit
variable{P:Program}{W W':World}
theorem own:ownKnob Tryz.prog.godebug=none:=by kernel_rfl
theorem laidOut:laidOutB Tryz.prog=true:=by kernel_rfl
theorem ua{H:Type}{enc:TypeId×Value->H}(hl:laidOutB P=true)(hb:Below W.heap.size W W'):
  ∀(ts:List TypeId) (vs:List Value) (ds:List (DataW H)) (ps:List MemPlace),ts.all (λt=>P.readableRec t && decide (t<P.types.size))=true->
   DataW.TrodAll enc P W 0 (λ_=>true) true ts vs ds ps->(∀x∈ps,x.block<W.heap.size)->
   DataW.TrodAll enc P W' 0 (λb=>decide (b<W.heap.size)) true ts vs ds ps:=by
 intro ts
 induction ts with
 |nil=>
  intro vs ds ps _ h _;obtain⟨rfl,rfl,rfl⟩:=trodAll_nil h;exact trodAll_mk0
 |cons t ts ih=>
  intro vs ds ps ht h eT;obtain⟨v,vs',d,ds',p,q,rfl,rfl,rfl,h1,h2⟩:=trodAll_cons h;simp only[List.all_cons,Bool.and_eq_true,decide_eq_true_eq]at ht;obtain⟨⟨hr,hs⟩,ht'⟩:=ht;refine trodAll_cons_mk (Below.trod hl hr hs h1 hb λx hx=>eT x (List.mem_append_left _ hx)) (ih _ _ _ (by simpa using ht') h2 λx hx=>eT x (List.mem_append_right _ hx))
theorem Gg{H:Type}{enc:TypeId×Value->H}(hl:laidOutB P=true){f:Func}{s:ChangeSpec}{tb:TypeId}{args:Array Value}{ds gs:List (DataW H)}{before:List MemPlace}
 (hW:DataW.Whole enc P f.params.toList s.vars false W args.toList ds gs before)(hv:s.vars=[])
 (hp:f.params.toList.all (λt=>P.readableRec t && decide (t<P.types.size))=true)(hr:f.resultTypes= #[tb])(htb:P.underlying tb=some .bool)
 (hfn:s.fn H ds={results:=[.lit (.bool true)],args:=ds})(hb:Below W.heap.size W W'):
  s.post enc P f false true false false W args (.bool true) W':=by
 have hW':=hW;obtain⟨p,q,hA,hV,rfl,hfz,Al⟩:=hW;rw[hv]at hV;obtain⟨rfl,rfl⟩:=trodVars_none hV;have eT:=hW'.lt;refine⟨ds,[],_,[],p,[],hW',?_,?_,?_,hb.frame _,λh=>by cases h⟩
 .rw[List.append_nil,hfn,hr];exact trodAll_cons_mk (p':=[]) (shut_bool htb true) trodAll_mk0
 .rw[List.append_nil,hfn];exact ua hl hb _ _ _ _ hp hA λx hx=>by simpa using eT x (List.mem_append_left _ hx)
 .rw[hv,List.append_nil,hfn];exact rfl
end Go.Proofs.YtmonobkginiajaaGreat
namespace Go.Proofs.YtmonobkginiajaaGreat
open Go.RowKit
variable{B o g:Nat}{p a:Addr}{v:Value}{t' t:TypeId}{cs':Array Value}{w:World}{P:Program}{cur cs l:List Value}
def az(w:World)(g:Nat)(t:TypeId)(cs:Array Value):Prop:= ∃lo hi,w.heap[g]?=some (.cells cs t (lo,hi))/\(lo=hi\/cs.size<=lo)
structure ag(S:List Nat)(w w':World):Prop where
 os:w'.os=w.os
 tape:w'.tape=w.tape
 output:w'.output=w.output
 size:w.heap.size<=w'.heap.size
 block:∀k,k<w.heap.size->k∉S->w'.heap[k]?=w.heap[k]?
section
variable{w w' w'':World}{g:Nat}{t:TypeId}{cs:Array Value}{S S':List Nat}
theorem ag.refl(S:List Nat)(w:World):ag S w w:=⟨rfl,rfl,rfl,Nat.le_refl _,λ_ _ _=>rfl⟩
theorem ag.bw(h:ag S w w')(k:ag S' w' w'')(hs:∀x∈S',x<w.heap.size->x∈S):ag S w w'':=
 ⟨k.os.trans h.os,k.tape.trans h.tape,k.output.trans h.output,Nat.le_trans h.size k.size,λb hb hn=>
  (k.block b (Nat.lt_of_lt_of_le hb h.size) (λhm=>hn (hs b hm hb))).trans (h.block b hb hn)⟩
theorem ag.trans(h:ag S w w')(k:ag S w' w''):ag S w w'':=h.bw k λ_ hx _=>hx
theorem ag.mono(h:ag S w w')(hs:∀x∈S,x<w.heap.size->x∈S'):ag S' w w':=
 ⟨h.os,h.tape,h.output,h.size,λb hb hn=>h.block b hb λhm=>hn (hs b hm hb)⟩
theorem ag.aj(h:Below w.heap.size w w'):ag S w w':=⟨h.os,h.tape,h.output,h.size,λb hb _=>h.block b hb⟩
theorem ag.below(h:ag S w w')(hs:∀x∈S,w.heap.size<=x):Below w.heap.size w w':=
 ⟨h.os,h.tape,h.output,h.size,λb hb=>h.block b hb λhm=>by have:=hs b hm;omega⟩
theorem ag.aE(h:ag S w w')(hB:B<=w.heap.size)(hs:∀x∈S,B<=x):Below B w w':=
 ⟨h.os,h.tape,h.output,h.size,λb hb=>h.block b (by omega) λhm=>by have:=hs b hm;omega⟩
theorem ag.cK(h:ag [] w w'):Below w.heap.size w w':=h.below (by simp)
theorem ag.drew(h:ag S w w'):ag S w w'.drew:=⟨h.os,h.tape,h.output,h.size,h.block⟩
theorem ag.drewN(h:ag S w w')(n:Nat):ag S w (w'.drewN n):=⟨h.os,h.tape,h.output,h.size,h.block⟩
theorem ag.alloc(h:ag S w w')(o:Obj):ag S w (w'.alloc o):=
 h.trans ⟨rfl,rfl,rfl,by simp,λb hb _=>Below.heap_alloc _ _ _ hb⟩
theorem ag.setCell(h:ag S w w')(hp:p.block<w.heap.size->p.block∈S)(v:Value):ag S w (w'.setCell p v):=
 ⟨h.os,h.tape,h.output,Nat.le_trans h.size (by simp[World.setCell]),λb hb hn=>
  (Below.heap_setCell _ _ _ _ (λe=>hn (by subst e;exact hp hb))).trans (h.block b hb hn)⟩
theorem ag.grown{row:Option Nat}(h:ag S w w')(hg:w'.grownBy w'' row)(hr:∀k,row=some k->k<w.heap.size->k∈S):ag S w w'':=
 ⟨hg.os.trans h.os,hg.tape.trans h.tape,hg.output.trans h.output,Nat.le_trans h.size hg.size,λb hb hn=>
  (hg.block b (Nat.lt_of_lt_of_le hb h.size) (λe=>hn (hr b e.symm hb))).trans (h.block b hb hn)⟩
theorem ag.cell(h:ag S w w')(hp:p.block<w.heap.size)(hn:p.block∉S):w'.cell? p=w.cell? p:=World.cell?_of_block (w:=w) (h.block p.block hp hn)
theorem ag.frozen(h:ag S w w')(hp:p.block<w.heap.size)(hn:p.block∉S):w'.frozen? p=w.frozen? p:=World.frozen?_of_block (w:=w) (h.block p.block hp hn)
theorem az.of_eq(h:w.heap[g]?=some (.cells cs t (0,0))):az w g t cs:=⟨0,0,h,.inl rfl⟩
theorem az.of_same(h:az w g t cs)(e:w'.heap[g]?=w.heap[g]?):az w' g t cs:=by
 obtain⟨lo,hi,h1,h2⟩:=h;exact⟨lo,hi,e.trans h1,h2⟩
theorem az.lt(h:az w g t cs):g<w.heap.size:=by
 obtain⟨lo,hi,h,_⟩:=h
 rcases Nat.lt_or_ge g w.heap.size with eT|DE
 .exact eT
 .rw[Array.getElem?_eq_none DE]at h;cases h
theorem az.cell(h:az w g t cs)(i:Nat):w.cell? ⟨g,i,none⟩=cs[i]?:=by
 obtain⟨lo,hi,h,_⟩:=h;exact cell_of_row w g i cs t (lo,hi) h
theorem az.ab(h:az w g t cs){i:Nat}(hv:cs[i]?=some v):w.cell? ⟨g,i,none⟩=some v:=(h.cell i).trans hv
theorem az.frozen(h:az w g t cs)(i:Nat)(hi:i<cs.size):w.frozen? ⟨g,i,none⟩=false:=by
 obtain⟨lo,kH,h,h2⟩:=h;simp only[World.frozen?,h]
 rcases h2 with rfl|h2
 .simp
 .simp;omega
theorem az.new(w:World)(t:TypeId)(cs:Array Value):az (w.alloc (.cells cs t)) w.heap.size t cs:= .of_eq (heap_alloc_new w _)
theorem az.drew(h:az w g t cs):az w.drew g t cs:=h
theorem az.drewN(h:az w g t cs)(n:Nat):az (w.drewN n) g t cs:=h
theorem az.alloc(h:az w g t cs)(o:Obj):az (w.alloc o) g t cs:=h.of_same (Below.heap_alloc w o g h.lt)
theorem az.bt(h:az w g t cs)(i:Nat)(u:Value):az (w.setCell ⟨g,i,none⟩ u) g t (cs.setIfInBounds i u):=by
 obtain⟨lo,hi,h,h2⟩:=h;exact⟨lo,hi,by simp[World.setCell,Array.getElem?_modify,h],by simpa using h2⟩
theorem az.aY(h:az w g t cs)(hp:g≠p.block)(u:Value):az (w.setCell p u) g t cs:=h.of_same (Below.heap_setCell w p u g hp)
theorem az.below(h:az w g t cs)(hb:Below B w w')(hg:g<B):az w' g t cs:=h.of_same (hb.block g hg)
theorem az.only(h:az w g t cs)(hb:ag S w w')(hg:g∉S):az w' g t cs:=h.of_same (hb.block g h.lt hg)
theorem az.inj(h:az w g t cs)(h':az w g t' cs'):t=t'/\cs=cs':=by
 obtain⟨lo,hi,h,_⟩:=h;obtain⟨lo',kH,h',_⟩:=h';rw[h]at h';injection h' with h'
 injection h' with e1 e2
 exact⟨e2,e1⟩
theorem az.mE{g':Nat}(h:az w g t cs)(h':az w g' t' cs')(eG:t≠t'):g≠g':=by
 rintro rfl;exact eG (h.inj h').1
end
theorem cB{w':World}(h:Below B w w')(n:Nat):Below B w (w'.drewN n):=⟨h.os,h.tape,h.output,h.size,h.block⟩
theorem dk(s:ByteArray):s.toList=s.data.toList:=ByteArray.toList_eq s
theorem mX(l:List UInt8)(s:ByteArray):(⟨l.toArray⟩++s:ByteArray)=⟨(l++s.data.toList).toArray⟩:=by
 apply ByteArray.ext;rw[ByteArray.data_append];simp
theorem ao{a b:World}(h:Below w.heap.size w a)(k:Below a.heap.size a b):Below w.heap.size w b:=h.trans (k.mono h.size)
theorem nO(a:Addr)(n:Nat):(a.add n).block=a.block:=by unfold Addr.add;split<;>rfl
theorem db(h:w.cell? a=some v):a.block<w.heap.size:=by
 rcases Nat.lt_or_ge a.block w.heap.size with eT|DE
 .exact eT
 .simp[World.cell?,Array.getElem?_eq_none DE]at h
theorem cell_lt{k:Nat}(h:w.cell? (a.add k)=some v):a.block<w.heap.size:=by
 rcases Nat.lt_or_ge a.block w.heap.size with eT|DE
 .exact eT
 .simp[World.cell?,nO,Array.getElem?_eq_none DE]at h
def bv(b:UInt8):Value:= .int .u8 (b.toNat:Int)
def cf(l:List UInt8):List Value:=l.map bv
@[simp] theorem fZ(l:List UInt8):(cf l).length=l.length:=by simp[cf]
theorem bE(l m:List UInt8):cf (l++m)=cf l++cf m:=by simp[cf]
theorem ra(l:List UInt8)(i:Nat):(cf l)[i]?=l[i]?.map bv:=by simp[cf]
theorem nP(l:List UInt8):∀v∈cf l,v.oneCell'=true:=by
 intro v hv;obtain⟨b,_,rfl⟩:=List.mem_map.1 hv;rfl
theorem foldl_push(l:List UInt8):∀s:ByteArray,(l.map λb=>(b.toNat:Int)).foldl (λr n=>r.push (UInt8.ofNat n.toNat)) s=⟨(s.data.toList++l).toArray⟩:=by
 induction l with
 |nil=>intro s;cases s;simp
 |cons b l ih=>
  intro s;simp only[List.map_cons,List.foldl_cons];rw[ih]
  congr 1
  simp[ByteArray.push]
theorem bs(w:World)(src dst e:TypeId)(hs:P.underlying src=some (.slice e))(he:P.underlying e=some (.int .u8))(hd:P.underlying dst=some .string)
 (a:Addr)(len cap:Nat)(l:List UInt8)(hl:l.length=len)(hc:∀j v,(cf l)[j]?=some v->w.cell? (a.add j)=some v):
  (convert src dst (.slice (some a) len cap)).run P w=.ok (.string ⟨l.toArray⟩) w:=by
 subst hl;rw[run_convert_bytes_string w src dst e (some a) l.length cap hs he hd];have h:=run_loadCells_list (P:=P) w a (cf l) hc;rw[fZ]at h;have e2:cf l=(l.map λb=>(b.toNat:Int)).map (Value.int .u8):=by simp[cf,bv]
 rw[e2]at h;rw[run_bytesToString w a l.length cap _ h,foldl_push];simp
def putAt(cur:List Value)(o:Nat)(cs:List Value):List Value:=cur.take o++cs++cur.drop (o+cs.length)
theorem oZ(cur:List Value)(o:Nat):putAt cur o []=cur:=by simp[putAt]
theorem gJ(h:o+cs.length<=cur.length):(putAt cur o cs).length=cur.length:=by
 simp[putAt];omega
theorem eU(z:Value)(n:Nat):madeCells #[z] n=(List.replicate n z).toArray:=by
 apply Array.ext
 .simp[size_madeCells]
 .intro i h1 h2;simp[madeCells,Nat.mod_one]
theorem Am(h:o<cur.length):putAt (cur.set o v) (o+1) cs=putAt cur o (v::cs):=by
 unfold putAt;rw[List.length_cons,List.take_succ_eq_append_getElem (by simpa using h),List.take_set_of_le (Nat.le_refl _),List.getElem_set_self,List.drop_set_of_lt (by omega)];simp[Nat.add_assoc,Nat.add_comm 1]
theorem az.setCells :∀(cs:List Value) {w:World} {cur:List Value} (o:Nat),az w g t cur.toArray->o+cs.length<=cur.length->az (w.setCells g o cs) g t (putAt cur o cs).toArray
 |[],w,cur,o,h,_=>by rw[oZ];exact h
 |v::cs,w,cur,o,h,hl=>by
  simp only[List.length_cons]at hl;have h1:=h.bt o v;rw[List.setIfInBounds_toArray]at h1;have h2:=az.setCells cs (o+1) h1 (by rw[List.length_set];omega);rw[Am (by omega)]at h2;exact h2
theorem ag.setCells{S:List Nat} :∀(cs:List Value) {w':World} (o:Nat),ag S w w'->(g<w.heap.size->g∈S)->ag S w (w'.setCells g o cs)
 |[],_,_,h,_=>h
 |v::cs,_,o,h,hg=>ag.setCells cs (o+1) (h.setCell (p:=⟨g,o,none⟩) hg v) hg
theorem rG(B:az w g t cur.toArray)(dT sT ty elem:TypeId)(o nQ rH:Nat)(a:Addr)(An sCap:Nat)(cs:List Value)
 (hu:P.underlying dT=some (.slice elem))(hs:(P.info? elem).map (·.size)=some 1)(hn:cs.length=Nat.min An nQ)
 (Gh:∀j v,cs[j]?=some v->w.cell? (a.add j)=some v)(pe:o+cs.length<=cur.length)(h1:∀v∈cs,v.oneCell'=true):
  ∃w',(Builtin.copy_ #[dT,sT] ty #[.slice (some ⟨g,o,none⟩) nQ rH,.slice (some a) An sCap]).run P w=.ok (goInt cs.length) w'/\az w' g t (putAt cur o cs).toArray/\ag [g] w w':=
 ⟨_,run_copy_cells (P:=P) w dT sT ty elem g o nQ rH a An sCap cs hu hs hn Gh (λj hj=>by rw[B.cell];simp;omega) (λj hj=>B.frozen _ (by simp;omega)) h1,
  B.setCells cs o pe,(ag.refl _ _).setCells cs o (by simp)⟩
theorem jQ(B:az w g t cur.toArray)(dT sT ty elem:TypeId)(o nQ rH:Nat)(s:ByteArray)(n:Nat)
 (hu:P.underlying dT=some (.slice elem))(hs:(P.info? elem).map (·.size)=some 1)(hn:n=Nat.min s.size nQ)(pe:o+n<=cur.length):
  ∃w',(Builtin.copy_ #[dT,sT] ty #[.slice (some ⟨g,o,none⟩) nQ rH,.string s]).run P w=.ok (goInt n) w'/\az w' g t (putAt cur o (cf (s.data.toList.take n))).toArray/\ag [g] w w':=by
 have hl:(cf (s.data.toList.take n)).length=n:=by
  have:n<=s.size:=by rw[hn];exact Nat.min_le_left _ _
  simp;omega
 refine⟨w.setCells g o (cf (s.data.toList.take n)),?_,B.setCells _ o (by omega),(ag.refl _ _).setCells _ o (by simp)⟩;have oQ:=run_storeCells_cells (P:=P) g o (cf (s.data.toList.take n)) 0 w (λj hj=>by rw[B.cell];simp;omega) (λj hj=>B.frozen _ (by simp;omega)) (nP _);have e:List.take n (List.map (λb:UInt8=>Value.int .u8 (b.toNat:Int)) s.data.toList)=cf (s.data.toList.take n):=by
  rw[cf,List.map_take];rfl
 cases hq:P.info? elem with
 |none=>simp[hq]at hs
 |some i=>
  simp only[Nat.add_zero]at oQ;simp[Builtin.copy_,run_underlying hu,Builtin.lenOf,Builtin.firstCells,sizeOf,typeInfo,hq,<-hn];rw[e,oQ];simp[Result.andThen]
theorem aZ(B:az w g t l.toArray)(o:Nat)(cs:List Value)(h:∀j v,cs[j]?=some v->l[o+j]?=some v):
  ∀j v,cs[j]?=some v->w.cell? ((⟨g,o,none⟩:Addr).add j)=some v:=by
 intro j v hv;have e:(⟨g,o,none⟩:Addr).add j=⟨g,o+j,none⟩:=by unfold Addr.add;split<;>simp_all
 rw[e,B.cell];simpa using h j v hv
def aQ(w:World)(e:TypeId)(size:Nat)(v:Value)(n:Nat)(l:List Value):Prop:=
 l.length=n*size/\((v=.slice none 0 0/\n=0)\/
  ∃g cap rest,v=.slice (some ⟨g,0,none⟩) n cap/\az w g e (l++rest).toArray/\l.length+rest.length=cap*size/\cap<=maxLen)
def ah:Value->List Nat
 |.slice (some a) _ _=>[a.block]
 |_=>[]
section
variable{w w':World}{e:TypeId}{size:Nat}{v:Value}{n:Nat}{l:List Value}{S:List Nat}
theorem aQ.nil(w:World)(e:TypeId)(size:Nat):aQ w e size (.slice none 0 0) 0 []:=⟨by simp,.inl ⟨rfl,rfl⟩⟩
theorem aQ.only(h:aQ w e size v n l)(ho:ag S w w')(hd:∀g∈ah v,g∉S):aQ w' e size v n l:=by
 refine⟨h.1,h.2.imp id ?_⟩;rintro⟨g,cap,rest,rfl,B,hc,hm⟩;exact⟨g,cap,rest,rfl,B.only ho (hd g (by simp[ah])),hc,hm⟩
theorem aQ.below(h:aQ w e size v n l)(hb:Below w.heap.size w w'):aQ w' e size v n l:=h.only (S:=[]) (.aj hb) (by simp)
theorem aQ.drew(h:aQ w e size v n l):aQ w.drew e size v n l:=h
theorem aQ.alloc(h:aQ w e size v n l)(o:Obj):aQ (w.alloc o) e size v n l:=h.only (S:=[]) ((ag.refl _ _).alloc o) (by simp)
theorem aQ.lt(h:aQ w e size v n l):∀g∈ah v,g<w.heap.size:=by
 rcases h.2 with⟨rfl,_⟩|⟨g,cap,rest,rfl,B,_⟩
 .simp[ah]
 .intro x hx;simp[ah]at hx;subst hx;exact B.lt
theorem aQ.rI{base:Nat}(h:w.ownsRow base e size v n l):aQ w e size v n l:=by
 refine⟨h.1,h.2.imp id ?_⟩;rintro⟨g,cap,cur,rfl,_,hh,FL,hm,hs,ht⟩;have mL:cur.toList.length=cap*size:=by simpa using hs
 refine⟨g,cap,cur.toList.drop (n*size),rfl,?_,?_,hm⟩
 .rw[<-ht,List.take_append_drop];exact .of_eq hh
 .rw[h.1,List.length_drop,mL];have:n*size<=cap*size:=Nat.mul_le_mul_right _ FL;omega
theorem aQ.form(h:aQ w e size v n l)(hn:0<n)(hs:0<size):∃g cap rest,v=.slice (some ⟨g,0,none⟩) n cap/\az w g e (l++rest).toArray/\n<=cap/\l.length+rest.length=cap*size:=by
 rcases h.2 with⟨_,h0⟩|⟨g,cap,rest,rfl,B,hc,_⟩
 .omega
 .refine⟨g,cap,rest,rfl,B,?_,hc⟩;have h1:=h.1;have:n*size<=cap*size:=by omega
  exact Nat.le_of_mul_le_mul_right this hs
theorem aQ.oR{n' cap:Nat}(h:aQ w e size (.slice (some ⟨g,0,none⟩) n' cap) n l):∃rest,az w g e (l++rest).toArray/\l.length+rest.length=cap*size/\n'=n/\cap<=maxLen:=by
 rcases h.2 with⟨h0,_⟩|⟨g',Ao,rest,hv,B,hc,hm⟩
 .simp at h0
 .simp only[Value.slice.injEq,Option.some.injEq,Addr.mk.injEq,and_true]at hv;obtain⟨rfl,rfl,rfl⟩:=hv;exact⟨rest,B,hc,rfl,hm⟩
end
theorem cQ{e:TypeId}{size:Nat}{n:Nat}(h:aQ w e size v n l)
 (t ty:TypeId)(i:TypeInfo)(z:Value)(bytes:Nat)(ht:P.underlying t=some (.slice e))(hi:P.info? e=some i)(hz:i.zero=some z)
 (rJ:i.size=size)(hby:i.bytes=bytes)(hzs:z.cells.size=size)(mL:0<size)
 (a:Addr)(m c:Nat)(news:List Value)(hl:news.length=m*size)(uy:∀j u,news[j]?=some u->w.cell? (a.add j)=some u)(h1:∀u∈news,u.oneCell'=true)
 (xI:n+m<=maxLen)(Ap:(n+m)*bytes<=140737488355328):
  ∃v' w',(Builtin.append_ #[t,t] ty #[v,.slice (some a) m c]).run P w=.ok v' w'/\aQ w' e size v' (n+m) (l++news)/\ag (ah v) w w'/\(∀g∈ah v',g∈ah v\/w.heap.size<=g):=by
 rcases h.2 with⟨rfl,rfl⟩|⟨g,cap,rest,rfl,B,hc,hm⟩
 .have ub:l=[]:=List.eq_nil_of_length_eq_zero (by simpa using h.1);subst ub;obtain⟨v',w',hr,h2,h3,_⟩:=run_append_own (P:=P) w w.heap.size t ty e i z size bytes ht hi hz rJ hby hzs mL (.slice none 0 0) 0 [] (World.ownsRow_nil _ _ _ _) a m c news hl uy h1 xI Ap (Nat.le_refl _);refine⟨v',w',hr,.rI h2,(ag.refl _ _).grown h3 (by simp[Value.ownBlock]),?_⟩;intro g hg
  rcases h2.2 with⟨rfl,_⟩|⟨g',cap,cur,rfl,hb,_⟩
  .simp[ah]at hg
  .simp[ah]at hg;subst hg;exact .inr hb
 .by_cases hr:n+m<=cap
  .subst rJ;have hmul:(n+m)*i.size<=cap*i.size:=Nat.mul_le_mul_right _ hr;rw[Nat.add_mul]at hmul;have hh:=h.1;have vZ:=run_append_room_cells (P:=P) w t ty e i ht hi g 0 n cap a m c news hl uy h1 hr (λj hj=>by rw[B.cell];simp;omega) (λj hj=>B.frozen _ (by simp;omega));refine⟨_,_,vZ,⟨by simp[hh,hl,Nat.add_mul],.inr ⟨g,cap,rest.drop news.length,rfl,?_,by simp;omega,hm⟩⟩,(ag.refl _ _).setCells news _ (by simp[ah]),by simp[ah]⟩
   have B2:=B.setCells news (0+n*i.size) (by simp;omega);have e2:putAt (l++rest) (0+n*i.size) news=l++news++rest.drop news.length:=by
    unfold putAt;rw[Nat.zero_add,<-hh,List.take_left,<-List.drop_drop,List.drop_left]
   rwa [e2]at B2
  .obtain⟨v',w',vZ,h2,h3⟩:=run_append_arg_grows (P:=P) w t ty e i z size bytes ht hi hz rJ hby hzs mL ⟨g,0,none⟩ n cap l h.1 (aZ B 0 l (by intro j u hu;rw[Nat.zero_add];exact List.getElem?_append_left (List.getElem?_eq_some_iff.1 hu).1▸hu)) a m c news hl uy (by omega) xI Ap;refine⟨v',w',vZ,.rI h2,(ag.refl _ _).grown h3 (by simp),?_⟩;intro g' hg
   rcases h2.2 with⟨rfl,_⟩|⟨g'',Ao,cur,rfl,hb,_⟩
   .simp[ah]at hg
   .simp[ah]at hg;subst hg;exact .inr hb
theorem qH(w:World)(src dst e:TypeId)(s:ByteArray)(hs:P.underlying src=some .string)(hd:P.underlying dst=some (.slice e))(he:P.underlying e=some (.int .u8))(hm:s.size<=maxLen):
  ∃cap w',(convert src dst (.string s)).run P w=.ok (.slice (some ⟨w.heap.size,0,none⟩) s.size cap) w'/\aQ w' e 1 (.slice (some ⟨w.heap.size,0,none⟩) s.size cap) s.size (cf s.data.toList)/\Below w.heap.size w w':=by
 refine⟨_,_,run_bytes_of_string (P:=P) w src dst e s hs hd he,⟨by simp,.inr ⟨w.heap.size,_,List.replicate (grownCap w s.size 0 e-s.size) (.int .u8 0),rfl,?_,?_,grownCap_le_maxLen _ _ _ _ hm⟩⟩,?_⟩
 .have e1:bytesRow s (grownCap w s.size 0 e)=(cf s.data.toList++List.replicate (grownCap w s.size 0 e-s.size) (Value.int .u8 0)).toArray:=by
   apply Array.toList_inj.1;simp[bytesRow,cf];exact λ_ _=>rfl
  rw[e1];exact⟨_,_,heap_alloc_new w.drew _,.inr (Nat.le_refl _)⟩
 .have:=grownCap_ge w s.size 0 e;simp;omega
 .exact⟨rfl,rfl,rfl,by simp,λk hk=>Below.heap_alloc w.drew _ k hk⟩
variable{w:World}{e:TypeId}{v:Value}{n:Nat}{l:List Value}
noncomputable def dG(P:Program)(T ty:TypeId)(w:World)(s x:Value):Result Value:=(Builtin.append_ #[T,T] ty #[s,x]).run P w
theorem aW(P:Program)(ρ:Operand->Value)(dst:Option Tmp)(s x:Operand)(T t:TypeId)(p:String)(af:Array Edge)(g:Option (Nat×Bool))(w:World):
  (execOp ρ {dst:=dst,op:= .call {callee:= .builtin .append,args:= #[s,x],argTypes:= #[T,T]},type:=t,pos:=p,after:=af,guard:=g}).run P w=(dG P T t w (ρ s) (ρ x)).andThen λv w'=> .ok (.value v) w':=by
 simp[execOp,resolve,invoke,builtin,dG]
theorem bZ{P:Program}(S:aQ w e 1 v n l)
 (T ty:TypeId)(z:Value)(bytes:Nat)(ht:P.underlying T=some (.slice e))(ki:(P.info? e).map (λi=>(i.zero,i.size,i.bytes))=some (some z,1,bytes))(hz:z.cells.size=1)
 (x:Value)(hx:x.oneCell'=true)(xI:n+1<=maxLen)(hb:(n+1)*bytes<=140737488355328):
  ∃v' w',dG P T ty (w.alloc (.cells #[x] e)) v (.slice (some ⟨w.heap.size,0,none⟩) 1 1)= .ok v' w'/\aQ w' e 1 v' (n+1) (l++[x])/\ag (ah v) w w'/\(∀g∈ah v',g∈ah v\/w.heap.size<=g):=by
 obtain⟨i0,hi,jb,gW,iS⟩:=info_parts ki;obtain⟨v',w',h1,h2,h3,h4⟩:=cQ (P:=P) (S.alloc (.cells #[x] e)) T ty i0 z bytes ht hi jb gW iS hz (by omega)
  ⟨w.heap.size,0,none⟩ 1 1 [x] rfl (aZ (l:=[x]) (az.new w e #[x]) 0 _ (by simp)) (by intro u hu;simp at hu;subst hu;exact hx) xI hb
 exact⟨v',w',h1,h2,((ag.refl _ _).alloc _).bw h3 (λx hx _=>hx),λg hg=>(h4 g hg).imp id (λh=>by simp at h;omega)⟩
theorem aq{size:Nat}(S:aQ w e size v n l):∃A c,v=.slice A n c:=by
 rcases S.2 with⟨rfl,rfl⟩|⟨g,cap,rest,rfl,_⟩
 .exact⟨none,0,rfl⟩
 .exact⟨_,cap,rfl⟩
variable{P:Program}{i fuel d n:Nat}{v:Value}{w:World}
theorem pa{α:Type}(l:List α)(i:Nat)(a:α):l.toArray.setIfInBounds i a=(l.set i a).toArray:=by simp
theorem pb{α:Type}(a b:α)(l:List α):(a::l).set 0 b=b::l:=rfl
theorem pc{α:Type}(a b:α)(l:List α)(n:Nat):(a::l).set (n+1) b=a::l.set n b:=rfl
theorem tkf{ops:Array Oper}{Q:Exit->Act->World->Prop}{md:Region.Mode}{S:World->Prop}{oi:Oper}{bf:Array Bool}{a:Act}(hi:ops[i]?=some oi)
 (hb:(Region.noSelect ops && (Region.free md ops bf i && ((Region.ready md ops bf).contains i && Region.wanted oi (yielded ops a.tmps))))=true)
 (hQ:∀c a w,Q (.panic c) (a.put oi.dst v) w->Q (.panic c) a w)(hS:S w)(y:∀w,S w->(execOp a.eval oi).run P w=.ok (.value v) w)
 (h:wpAnyH P md ops Q S fuel (bf.setIfInBounds i true) (a.put oi.dst v) w):wpAnyH P md ops Q S (fuel+1) bf a w:=by
 simp only[Bool.and_eq_true]at hb;exact wpAnyH_take hi hb.1 hb.2.1 hb.2.2.1 hQ (Or.inl ⟨hb.2.2.2,y⟩) hS h
def Zpl(_:List (Nat×Nat))(g:Prop):Prop:=g
theorem dq(l:List (Nat×Nat)){g:Prop}(h:Zpl l g):g:=h
theorem zpe{g:Prop}(h:g):Zpl [] g:=h
theorem ztp{ops:Array Oper}{Q:Exit->Act->World->Prop}{md:Region.Mode}{S:World->Prop}{l:List (Nat×Nat)}{x1 x2 x3 x4 x5}{bf:Array Bool}{a:Act}(hi:ops[i]?=some ⟨some d,x1,x2,x3,x4,x5⟩)
 (hb:(Region.noSelect ops && (Region.free md ops bf i && ((Region.ready md ops bf).contains i && Region.wanted ⟨some d,x1,x2,x3,x4,x5⟩ (yielded ops a.tmps))))=true)
 (hQ:∀c a w,Q (.panic c) (a.put (some d) v) w->Q (.panic c) a w)(hS:S w)(y:∀w,S w->(execOp a.eval ⟨some d,x1,x2,x3,x4,x5⟩).run P w=.ok (.value v) w)
 (h:Zpl l (wpAnyH P md ops Q S fuel (bf.setIfInBounds i true) (a.put (some d) v) w)):Zpl ((i,d)::l) (wpAnyH P md ops Q S (fuel+1) bf a w):=tkf hi hb hQ hS y h
theorem zt{ops:Array Oper}{Q:Exit->Act->World->Prop}{md:Region.Mode}{S:World->Prop}{l:List (Nat×Nat)}{x1 x2 x3 x4 x5}{bf:Array Bool}{a:Act} 
 (h:Zpl l (wpAnyH P md ops Q S fuel (bf.setIfInBounds i true) (a.put (some d) v) w))(hi:ops[i]?=some ⟨some d,x1,x2,x3,x4,x5⟩:=by rfl)
 (hb:(Region.noSelect ops && (Region.free md ops bf i && ((Region.ready md ops bf).contains i && Region.wanted ⟨some d,x1,x2,x3,x4,x5⟩ (yielded ops a.tmps))))=true:=by kernel_rfl)
 (hQ:∀c a w,Q (.panic c) (a.put (some d) v) w->Q (.panic c) a w:=by exact λ_ _ _ h=>h)(hS:S w:=by assumption)
 (y:∀w,S w->(execOp a.eval ⟨some d,x1,x2,x3,x4,x5⟩).run P w=.ok (.value v) w:=by intro w hS;(try dsimp only at hS);go_simp;try with_reducible rfl):Zpl ((i,d)::l) (wpAnyH P md ops Q S (fuel+1) bf a w):=ztp hi hb hQ hS y h
theorem tkd{ops:Array Oper}{Q:Exit->Act->World->Prop}{md:Region.Mode}{S:World->Prop}{oi:Oper}{bf:Array Bool}{a:Act} 
 (hQ:∀c a w,Q (.panic c) (a.put oi.dst v) w->Q (.panic c) a w)(h:wpAnyH P md ops Q S fuel (bf.setIfInBounds i true) (a.put oi.dst v) w)(hi:ops[i]?=some oi:=by rfl)
 (hb:(Region.noSelect ops && (Region.free md ops bf i && ((Region.ready md ops bf).contains i && Region.wanted oi (yielded ops a.tmps))))=true:=by kernel_rfl)
 (hS:S w:=by assumption)(y:∀w,S w->(execOp a.eval oi).run P w=.ok (.value v) w:=by intro w hS;(try dsimp only at hS);go_simp;try with_reducible rfl):wpAnyH P md ops Q S (fuel+1) bf a w:=tkf hi hb hQ hS y h
theorem rd1{ops:Array Oper}{Q:Exit->Act->World->Prop}{md:Region.Mode}{S:World->Prop}{bf:Array Bool}{a:Act}{o:Oper}
 (h:∀K':Act->World->Prop,Shut (∀a w,S w->(S w->wpAnyH P md ops Q S fuel (bf.setIfInBounds i true) a w)->K' a w)->if Region.wanted o (yielded ops a.tmps)=true then Oper.wp P o a w K' Q else K' (a.put o.dst undef) w)
 (hr:Region.ready md ops bf=[i]:=by kernel_rfl)(ho:ops[i]?=some o:=by rfl):wpAnyH P md ops Q S (fuel+1) bf a w:=wpAnyH_ready hr (by simp) (AllReadyH.cons ho h AllReadyH.nil)
theorem tks{ops:Array Oper}{Q:Exit->Act->World->Prop}{md:Region.Mode}{S:World->Prop}{oi:Oper}{bf:Array Bool}{a:Act}(hi:ops[i]?=some oi)
 (hb:(Region.noSelect ops && (Region.free md ops bf i && ((Region.ready md ops bf).contains i && !(Region.wanted oi (yielded ops a.tmps)))))=true)
 (hQ:∀c a w,Q (.panic c) (a.put oi.dst undef) w->Q (.panic c) a w)(hS:S w)
 (h:wpAnyH P md ops Q S fuel (bf.setIfInBounds i true) (a.put oi.dst undef) w):wpAnyH P md ops Q S (fuel+1) bf a w:=by
 simp only[Bool.and_eq_true,Bool.not_eq_true']at hb;exact wpAnyH_take hi hb.1 hb.2.1 hb.2.2.1 hQ (Or.inr ⟨hb.2.2.2,rfl⟩) hS h
theorem za{ops:Array Oper}{Q:Exit->Act->World->Prop}{md:Region.Mode}{S:World->Prop}{l:List (Nat×Nat)}{x1 x2 x3 x4 x5}{bf:Array Bool}{a a':Act} 
 (h:Zpl l (wpAnyH P md ops Q S fuel (bf.setIfInBounds i true) a' w))(hi:ops[i]?=some ⟨some d,x1,x2,x3,x4,x5⟩:=by rfl)
 (hb:(Region.noSelect ops && (Region.free md ops bf i && ((Region.ready md ops bf).contains i && Region.wanted ⟨some d,x1,x2,x3,x4,x5⟩ (yielded ops a.tmps))))=true:=by kernel_rfl)
 (hQ:∀c a w,Q (.panic c) (a.put (some d) v) w->Q (.panic c) a w:=by exact λ_ _ _ h=>h)(hS:S w:=by assumption)
 (y:∀w,S w->(execOp a.eval ⟨some d,x1,x2,x3,x4,x5⟩).run P w=.ok (.value v) w:=by intro w hS;(try dsimp only at hS);go_simp;try with_reducible rfl)
 (ha:a.put (some d) v=a':=by simp only[Act.put,pa,pb,pc];exact rfl):Zpl ((i,d)::l) (wpAnyH P md ops Q S (fuel+1) bf a w):=ztp hi hb hQ hS y (ha▸h)
theorem zb{ops:Array Oper}{Q:Exit->Act->World->Prop}{md:Region.Mode}{S:World->Prop}(i d:Nat){x1 x2 x3 x4 x5}{bf:Array Bool}{a a':Act} 
 (hQ:∀c a w,Q (.panic c) (a.put (some d) v) w->Q (.panic c) a w)(h:wpAnyH P md ops Q S fuel (bf.setIfInBounds i true) a' w)(hi:ops[i]?=some ⟨some d,x1,x2,x3,x4,x5⟩:=by rfl)
 (hb:(Region.noSelect ops && (Region.free md ops bf i && ((Region.ready md ops bf).contains i && Region.wanted ⟨some d,x1,x2,x3,x4,x5⟩ (yielded ops a.tmps))))=true:=by kernel_rfl)
 (hS:S w:=by assumption)(y:∀w,S w->(execOp a.eval ⟨some d,x1,x2,x3,x4,x5⟩).run P w=.ok (.value v) w:=by intro w hS;(try dsimp only at hS);go_simp;try with_reducible rfl)
 (ha:a.put (some d) v=a':=by simp only[Act.put,pa,pb,pc];exact rfl):wpAnyH P md ops Q S (fuel+1) bf a w:=tkf hi hb hQ hS y (ha▸h)
theorem zc{ops:Array Oper}{Q:Exit->Act->World->Prop}{md:Region.Mode}{S:World->Prop}(i d:Nat){x1 x2 x3 x4 x5}{bf:Array Bool}{a a':Act} 
 (h:wpAnyH P md ops Q S fuel (bf.setIfInBounds i true) a' w)(hi:ops[i]?=some ⟨some d,x1,x2,x3,x4,x5⟩:=by rfl)
 (hb:(Region.noSelect ops && (Region.free md ops bf i && ((Region.ready md ops bf).contains i && !(Region.wanted ⟨some d,x1,x2,x3,x4,x5⟩ (yielded ops a.tmps)))))=true:=by kernel_rfl)
 (hQ:∀c a w,Q (.panic c) (a.put (some d) undef) w->Q (.panic c) a w:=by exact λ_ _ _ h=>h)(hS:S w:=by assumption)
 (ha:a.put (some d) undef=a':=by simp only[Act.put,pa,pb,pc];exact rfl):wpAnyH P md ops Q S (fuel+1) bf a w:=tks hi hb hQ hS (ha▸h)
theorem zd{ops:Array Oper}{Q:Exit->Act->World->Prop}{md:Region.Mode}{S:World->Prop}{bf:Array Bool}{a:Act}(i d:Nat){x1 x2 x3 x4 x5}
 (h:∀K':Act->World->Prop,Shut (∀a w,S w->(S w->wpAnyH P md ops Q S fuel (bf.setIfInBounds i true) a w)->K' a w)->if Region.wanted ⟨some d,x1,x2,x3,x4,x5⟩ (yielded ops a.tmps)=true then Oper.wp P ⟨some d,x1,x2,x3,x4,x5⟩ a w K' Q else K' (a.put (some d) undef) w)
 (hr:Region.ready md ops bf=[i]:=by kernel_rfl)(ho:ops[i]?=some ⟨some d,x1,x2,x3,x4,x5⟩:=by rfl):wpAnyH P md ops Q S (fuel+1) bf a w:=wpAnyH_ready hr (by simp) (AllReadyH.cons ho h AllReadyH.nil)
theorem zf{ops:Array Oper}{Q:Exit->Act->World->Prop}{md:Region.Mode}{S:World->Prop}{bf:Array Bool}{a:Act}(i:Nat){x1 x2 x3 x4 x5}
 (h:∀K':Act->World->Prop,Shut (∀a w,S w->(S w->wpAnyH P md ops Q S fuel (bf.setIfInBounds i true) a w)->K' a w)->if Region.wanted ⟨none,x1,x2,x3,x4,x5⟩ (yielded ops a.tmps)=true then Oper.wp P ⟨none,x1,x2,x3,x4,x5⟩ a w K' Q else K' (a.put none undef) w)
 (hr:Region.ready md ops bf=[i]:=by kernel_rfl)(ho:ops[i]?=some ⟨none,x1,x2,x3,x4,x5⟩:=by rfl):wpAnyH P md ops Q S (fuel+1) bf a w:=wpAnyH_ready hr (by simp) (AllReadyH.cons ho h AllReadyH.nil)
theorem zg{ops:Array Oper}{Q:Exit->Act->World->Prop}{md:Region.Mode}{S:World->Prop}(i d:Nat){x1 x2 x3 x4 x5}(v:Value){bf:Array Bool}{a a':Act} 
 (y:∀w,S w->(execOp a.eval ⟨some d,x1,x2,x3,x4,x5⟩).run P w=.ok (.value v) w)(h:wpAnyH P md ops Q S fuel (bf.setIfInBounds i true) a' w)(hi:ops[i]?=some ⟨some d,x1,x2,x3,x4,x5⟩:=by rfl)
 (hb:(Region.noSelect ops && (Region.free md ops bf i && ((Region.ready md ops bf).contains i && Region.wanted ⟨some d,x1,x2,x3,x4,x5⟩ (yielded ops a.tmps))))=true:=by kernel_rfl)
 (hQ:∀c a w,Q (.panic c) (a.put (some d) v) w->Q (.panic c) a w:=by exact λ_ _ _ h=>h)(hS:S w:=by assumption)
 (ha:a.put (some d) v=a':=by simp only[Act.put,pa,pb,pc];exact rfl):wpAnyH P md ops Q S (fuel+1) bf a w:=tkf hi hb hQ hS y (ha▸h)
theorem zh{S:World->Prop}{W K':Act->World->Prop}{a a':Act}(hK:Shut (∀a w,S w->(S w->W a w)->K' a w))(hS:S w)(h:S w->W a' w)(ha:a=a':=by(try simp only[Act.put,pa,pb,pc]);exact rfl):K' a w:=Shut.o hK _ _ hS (ha▸h)
theorem exl'(u:ByteArray)(a b:Nat):(u.extract a b).data.toList=(u.data.toList.drop a).take (b-a):=by
 rw[ByteArray.data_extract,Array.toList_extract,List.extract_eq_take_drop]
theorem rK{f:FuncId}{args:Array Value}(h:Calls P f args (w.drewN n) λe w'=>e=.returned v/\w.drewN n=w'):Calls P f args (w.drewN n) λe w''=>e=.returned v/\∃m,w''=w.drewN m:=h.mono λ_ _ ⟨he,hm⟩=>⟨he,n,hm.symm⟩
theorem re{l:List UInt8}{e:TypeId}(S:aQ w e 1 v n (cf l))(src dst:TypeId)(hs:P.underlying src=some (.slice e))(he:P.underlying e=some (.int .u8))(hd:P.underlying dst=some .string):
  (convert src dst v).run P w=.ok (.string ⟨l.toArray⟩) w:=by
 have hl:=S.1
 rcases S.2 with⟨rfl,rfl⟩|⟨g,cap,rest,rfl,B,hc,_⟩
 .have ub:l=[]:=List.eq_nil_of_length_eq_zero (by simpa using hl);subst ub;rw[run_convert_bytes_string w src dst e none 0 0 hs he hd];rfl
 .exact bs (P:=P) w src dst e hs he hd ⟨g,0,none⟩ n cap l (by simpa using hl) (aZ B 0 _ (by intro j u hu;rw[Nat.zero_add];exact List.getElem?_append_left (List.getElem?_eq_some_iff.1 hu).1▸hu))
variable{P:Program}{w:World}{e:TypeId}{v:Value}{n:Nat}{l:List Value}
def cq:Value->List Nat
 |.slice (some a) _ c=>if c=0 then []else [a.block]
 |_=>[]
def Sl(w:World)(e:TypeId)(v:Value)(n:Nat)(l:List Value):Prop:=
 l.length=n/\((∃A,v=.slice A 0 0/\n=0)\/
  ∃g cap rest,v=.slice (some ⟨g,0,none⟩) n cap/\0<cap/\az w g e (l++rest).toArray/\l.length+rest.length=cap/\cap<=maxLen)
section
variable{w w':World}{e:TypeId}{v:Value}{n:Nat}{l:List Value}{S:List Nat}
theorem Sl.nil(w:World)(e:TypeId):Sl w e (.slice none 0 0) 0 []:=⟨rfl,.inl ⟨none,rfl,rfl⟩⟩
theorem Sl.Aq(h:aQ w e 1 v n l):Sl w e v n l:=by
 have hl:=h.1;refine⟨by omega,?_⟩
 rcases h.2 with⟨rfl,rfl⟩|⟨g,cap,rest,rfl,B,hc,hm⟩
 .exact .inl ⟨none,rfl,rfl⟩
 .by_cases h0:cap=0
  .subst h0;have:n=0:=by omega
   subst this;exact .inl ⟨_,rfl,rfl⟩
  .exact .inr ⟨g,cap,rest,rfl,by omega,B,by omega,hm⟩
theorem Sl.only(h:Sl w e v n l)(ho:ag S w w')(hd:∀g∈cq v,g∉S):Sl w' e v n l:=by
 refine⟨h.1,h.2.imp id ?_⟩;rintro⟨g,cap,rest,rfl,h0,B,hc,hm⟩;exact⟨g,cap,rest,rfl,h0,B.only ho (hd g (by simp[cq];omega)),hc,hm⟩
theorem Sl.drew(h:Sl w e v n l):Sl w.drew e v n l:=h
theorem Sl.alloc(h:Sl w e v n l)(o:Obj):Sl (w.alloc o) e v n l:=h.only (S:=[]) ((ag.refl _ _).alloc o) (by simp)
theorem Sl.lt(h:Sl w e v n l):∀g∈cq v,g<w.heap.size:=by
 rcases h.2 with⟨A,rfl,_⟩|⟨g,cap,rest,rfl,h0,B,_⟩
 .cases A<;>simp[cq]
 .intro x hx;simp[cq]at hx;rw[hx.2];exact B.lt
theorem Sl.val(h:Sl w e v n l):∃A c,v=.slice A n c/\n<=c:=by
 rcases h.2 with⟨A,rfl,rfl⟩|⟨g,cap,rest,rfl,_,_,hc,_⟩
 .exact⟨A,0,rfl,Nat.le_refl _⟩
 .exact⟨_,cap,rfl,by have:=h.1;omega⟩
theorem Sl.form(h:Sl w e v n l)(hn:0<n):∃g cap rest,v=.slice (some ⟨g,0,none⟩) n cap/\az w g e (l++rest).toArray/\n<=cap/\l.length+rest.length=cap:=by
 rcases h.2 with⟨_,_,h0⟩|⟨g,cap,rest,rfl,_,B,hc,_⟩
 .omega
 .exact⟨g,cap,rest,rfl,B,by have:=h.1;omega,hc⟩
theorem Sl.bt(h:Sl w e v n l)(k:Nat)(hk:k<n)(u:Value):∃g c,v=.slice (some ⟨g,0,none⟩) n c/\Sl (w.setCell ⟨g,k,none⟩ u) e v n (l.set k u)/\cq v=[g]/\w.frozen? ⟨g,k,none⟩=false/\ag [g] w (w.setCell ⟨g,k,none⟩ u):=by
 rcases h.2 with⟨A,rfl,h0⟩|⟨g,cap,rest,rfl,h0,B,hc,hm⟩
 .omega
 .have hl:=h.1;refine⟨g,cap,rfl,⟨by rw[List.length_set];exact hl,.inr ⟨g,cap,rest,rfl,h0,?_,by rw[List.length_set];exact hc,hm⟩⟩,by simp[cq];omega,B.frozen k (by simp;omega),(ag.refl _ _).setCell (by simp) _⟩;have B2:=B.bt k u;rw[List.setIfInBounds_toArray,List.set_append_left _ _ (by omega)]at B2;exact B2
end
theorem DF(h:Sl w e v n l)
 (T ty:TypeId)(z:Value)(bytes:Nat)(ht:P.underlying T=some (.slice e))(ki:(P.info? e).map (λi=>(i.zero,i.size,i.bytes))=some (some z,1,bytes))(hz:z.cells.size=1)
 (x:Option Addr)(m c:Nat)(news:List Value)(hl:news.length=m)(uy:∀j u,news[j]?=some u->∃a,x=some a/\w.cell? (a.add j)=some u)(h1:∀u∈news,u.oneCell'=true)
 (xI:n+m<=maxLen)(hb:(n+m)*bytes<=140737488355328):
  ∃v' w',dG P T ty w v (.slice x m c)= .ok v' w'/\Sl w' e v' (n+m) (l++news)/\ag (cq v) w w'/\(∀g∈cq v',g∈cq v\/w.heap.size<=g):=by
 obtain⟨i0,hi,jb,gW,iS⟩:=info_parts ki;have mM:=h.1
 by_cases hm0:m=0
 .subst hm0;have ub:news=[]:=List.eq_nil_of_length_eq_zero hl;subst ub;refine⟨v,w,?_,by simpa using h,ag.refl _ _,λx hx=> .inl hx⟩;unfold dG;obtain⟨A,cc,rfl,FL⟩:=h.val
  cases x with
  |none=>cases A<;>simp[Builtin.append_,run_underlying ht,sizeOf,typeInfo,hi,Builtin.lenOf,Builtin.firstCells,FL,storeCells]
  |some a=>
   cases A with
   |none=>simp[Builtin.append_,run_underlying ht,sizeOf,typeInfo,hi,Builtin.lenOf,Builtin.firstCells,FL,storeCells,loadCells,loadCellsFrom]
   |some b=>simp[Builtin.append_,run_underlying ht,sizeOf,typeInfo,hi,Builtin.lenOf,Builtin.firstCells,FL,storeCells,loadCells,loadCellsFrom]
 .obtain⟨u0,hu0⟩:∃u,news[0]?=some u:=⟨news[0]'(by omega),List.getElem?_eq_getElem (by omega)⟩;obtain⟨a,rfl,_⟩:=uy 0 u0 hu0;have hn2:∀j u,news[j]?=some u->w.cell? (a.add j)=some u:=λj u hu=>by
   obtain⟨a',e1,h2⟩:=uy j u hu;injection e1 with e1
   rw[e1];exact h2
  rcases h.2 with⟨A,rfl,rfl⟩|⟨g,cap,rest,rfl,h0,B,hc,hm⟩
  .have ub:l=[]:=List.eq_nil_of_length_eq_zero mM;subst ub
   cases A with
   |none=>
    obtain⟨v',w',e1,h2,h3,h4⟩:=cQ (P:=P) (aQ.nil w e 1) T ty i0 z bytes ht hi jb gW iS hz (by omega) a m c news (by omega) hn2 h1 xI hb;exact⟨v',w',e1,Sl.Aq h2,h3.mono (by simp[ah]),λg hg=>by
     have hg':g∈ah v':=by
      rcases h2.2 with⟨rfl,_⟩|⟨g',Ao,rest',rfl,_⟩
      .simp[cq]at hg
      .simp[cq]at hg;simp[ah];exact hg.2
     exact(h4 g hg').elim (λh=>by simp[ah]at h) .inr⟩
   |some b=>
    obtain⟨v',w',vZ,h2,h3⟩:=run_append_arg_grows (P:=P) w T ty e i0 z 1 bytes ht hi jb gW iS hz (by omega) b 0 0 [] rfl (by simp) a m c news (by omega) hn2 (by omega) xI hb;refine⟨v',w',vZ,Sl.Aq (.rI h2),(ag.refl _ _).grown h3 (by simp),?_⟩;intro g hg
    rcases h2.2 with⟨rfl,_⟩|⟨g'',Ao,cur,rfl,hb',_⟩
    .simp[cq]at hg
    .simp[cq]at hg;rw[hg.2];exact .inr hb'
  .have S:aQ w e 1 (.slice (some ⟨g,0,none⟩) n cap) n l:=⟨by omega,.inr ⟨g,cap,rest,rfl,B,by omega,hm⟩⟩;obtain⟨v',w',e1,h2,h3,h4⟩:=cQ (P:=P) S T ty i0 z bytes ht hi jb gW iS hz (by omega) a m c news (by omega) hn2 h1 xI hb;have ho:cq (.slice (some ⟨g,0,none⟩) n cap)=[g]:=by simp[cq];omega
   refine⟨v',w',e1,Sl.Aq h2,by rw[ho];exact h3.mono (by simp[ah]),λx hx=>?_⟩;rw[ho];have hx':x∈ah v':=by
    rcases h2.2 with⟨rfl,_⟩|⟨g',Ao,rest',rfl,_⟩
    .simp[cq]at hx
    .simp[cq]at hx;simp[ah];exact hx.2
   exact(h4 x hx').imp (by simp[ah]) id
theorem Ar(h:Sl w e v n l)
 (T ty:TypeId)(z:Value)(bytes:Nat)(ht:P.underlying T=some (.slice e))(ki:(P.info? e).map (λi=>(i.zero,i.size,i.bytes))=some (some z,1,bytes))(hz:z.cells.size=1)
 (x:Value)(hx:x.oneCell'=true)(xI:n+1<=maxLen)(hb:(n+1)*bytes<=140737488355328):
  ∃v' w',dG P T ty (w.alloc (.cells #[x] e)) v (.slice (some ⟨w.heap.size,0,none⟩) 1 1)= .ok v' w'/\Sl w' e v' (n+1) (l++[x])/\ag (cq v) w w'/\(∀g∈cq v',g∈cq v\/w.heap.size<=g):=by
 obtain⟨v',w',h1,h2,h3,h4⟩:=DF (P:=P) (h.alloc (.cells #[x] e)) T ty z bytes ht ki hz (some ⟨w.heap.size,0,none⟩) 1 1 [x] rfl
  (λj u hu=>⟨_,rfl,aZ (l:=[x]) (az.new w e #[x]) 0 _ (by simp) j u hu⟩) (by intro u hu;simp at hu;subst hu;exact hx) xI hb
 exact⟨v',w',h1,h2,((ag.refl _ _).alloc _).bw h3 (λx hx _=>hx),λg hg=>(h4 g hg).imp id (λh=>by simp at h;omega)⟩
end Go.Proofs.YtmonobkginiajaaGreat
