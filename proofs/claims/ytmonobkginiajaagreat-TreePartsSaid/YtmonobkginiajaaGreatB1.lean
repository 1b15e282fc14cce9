/- packed. -/
import Derived.Deep.RegionHeld
import Derived.Test.YtmonobkginiajaaGreatRows
import Derived.WalkKit
import Derived.ProofKit
import Derived.OpenShut
import Derived.SizedLaws
import Derived.JoinedCond
import Derived.WalkLawsBesides
import Derived.WalkSpells
import Derived.Lib.Hide
import Derived.Laws.CopyOwn
import Derived.Deep.Draws
import Derived.Laws.Rows
import Derived.SliceStrings
import Derived.OrdersHeld
import Derived.Deep.QuietTactic
import Derived.BigQuiet
import Derived.Laws.Bits64b
import Derived.Lib.AppendStr
import Derived.Deep.LoopGhost
import Derived.Deep.DrawnRows
import Derived.Laws.ResultCell
import Derived.Deep.RegionHeld3
set_option linter.all false
set_option maxRecDepth 100000
set_option maxHeartbeats 8000000
namespace Go
theorem RowKit.Hid.o{p:Prop}(h:RowKit.Hid p):p:=h
theorem Shut.o{p:Prop}(h:Shut p):p:=h
end Go
namespace Go.Proofs.YtmonobkginiajaaGreat
open Go.Proofs.Tryz
section
theorem xh{p:Prop}(h:p):RowKit.Hid p:=h
def zal0q:=@Array.eq_empty_of_size_eq_zero
def RI:=@Array.getD_eq_getD_getElem?
def RJ:=@Array.getElem?_eq_none
def RK:=@Array.length_toList
def RM:=@Array.toList_extract
def rP:=@Array.toList_inj
def im:=@Bool.and_eq_true
def pw:=@Bool.false_eq_true
def RN:=@Bool.not_eq_true
def wW:=@Bool.or_eq_true
def Jw:=@Bool.true_and
def Jx:=@ByteArray.data_append
def Jy:=@ByteArray.data_extract
def mr:=@ByteArray.ext
def DT:=@ByteArray.size_append
def uZ:=@ByteArray.size_extract
def DU:=@Int.add_sub_cancel
def eT:=@Int.eq_ofNat_of_zero_le
def jI:=@Int.le_refl
def Jz:=@Int.tdiv_eq_ediv_of_nonneg
def gG:=@Int.toNat_natCast
def r5:=@List.all_eq_true
def cr:=@List.append_assoc
def JA:=@List.append_eq_nil_iff
def JB:=@List.append_inj'
def iJ:=@List.append_nil
def lI:=@List.cons_append
def r7:=@List.countP_append
def r8:=@List.countP_congr
def yG:=@List.countP_eq_length_filter
def JC:=@List.countP_eq_zero
def vd:=@List.countP_le_length
def DW:=@List.countP_map
def JD:=@List.countP_singleton
def JE:=@List.count_append
def JF:=@List.count_cons
def r9:=@List.drop_append_of_le_length
def iK:=@List.drop_drop
def sg:=@List.drop_eq_getElem_cons
def lJ:=@List.drop_eq_nil_of_le
def sj:=@List.drop_left
def JG:=@List.drop_length
def DX:=@List.drop_of_length_le
def DY:=@List.drop_succ_cons
def D0:=@List.drop_zero
def lK:=@List.eq_nil_of_length_eq_zero
def sk:=@List.eq_nil_or_concat
def om:=@List.eq_of_mem_replicate
def vf:=@List.exists_mem_of_ne_nil
def vg:=@List.ext_getElem
def mu:=@List.ext_getElem?
def JH:=@List.extract_eq_take_drop
def sq:=@List.filter_append
def j5:=@List.filter_cons
def JI:=@List.filter_eq_nil_iff
def vh:=@List.filter_eq_self
def D4:=@List.filter_filter
def D7:=@List.filter_sublist
def JJ:=@List.findIdx_cons
def pL:=@List.findIdx_getElem
def oo:=@List.findIdx_le_length
def JK:=@List.findIdx_lt_length
def sr:=@List.flatMap_append
def gW:=@List.flatMap_cons
def yH:=@List.foldl_cons
def JL:=@List.foldl_nil
def gH:=@List.getD_eq_getElem?_getD
def bF:=@List.getElem?_append_left
def dW:=@List.getElem?_append_right
def vi:=@List.getElem?_cons_succ
def yI:=@List.getElem?_cons_zero
def gI:=@List.getElem?_drop
def aL:=@List.getElem?_eq_getElem
def gu:=@List.getElem?_eq_none
def aS:=@List.getElem?_eq_some_iff
def jr:=@List.getElem?_map
def kH:=@List.getElem?_of_mem
def D8:=@List.getElem?_replicate
def iL:=@List.getElem?_set
def gJ:=@List.getElem?_set_ne
def dO:=@List.getElem?_set_self
def pM:=@List.getElem?_take
def pN:=@List.getElem?_take_of_lt
def dj:=@List.getElem?_toArray
def JM:=@List.getElem_cons_succ
def JN:=@List.getElem_map
def jJ:=@List.getElem_mem
def oq:=@List.getElem_of_mem
def yJ:=@List.getElem_range
def JO:=@List.getElem_take
def JP:=@List.insertIdx_succ_cons
def aU:=@List.length_append
def fI:=@List.length_cons
def cO:=@List.length_drop
def D9:=@List.length_eq_zero_iff
def JQ:=@List.length_eraseIdx_of_lt
def RP:=@List.length_erase_of_mem
def Ea:=@List.length_filter_le
def yK:=@List.length_insertIdx
def fo:=@List.length_map
def iq:=@List.length_nil
def tL:=@List.length_pos_iff
def Eb:=@List.length_range
def ez:=@List.length_replicate
def bW:=@List.length_set
def mS:=@List.length_singleton
def bm:=@List.length_take
def dA:=@List.map_append
def gy:=@List.map_congr_left
def fN:=@List.map_cons
def j6:=@List.map_map
def qI:=@List.map_nil
def qJ:=@List.map_set
def lR:=@List.map_take
def aC:=@List.mem_append
def cd:=@List.mem_append_left
def bK:=@List.mem_append_right
def an:=@List.mem_cons
def ax:=@List.mem_cons_of_mem
def fY:=@List.mem_cons_self
def ir:=@List.mem_filter
def mU:=@List.mem_flatMap
def yg:=@List.mem_iff_getElem
def Ec:=@List.mem_iff_getElem?
def qK:=@List.mem_insertIdx
def dC:=@List.mem_map
def qL:=@List.mem_map_of_mem
def ay:=@List.mem_of_getElem?
def mV:=@List.mem_of_mem_drop
def tM:=@List.mem_of_mem_tail
def fZ:=@List.mem_of_mem_take
def yh:=@List.mem_or_eq_of_mem_set
def kR:=@List.mem_range
def aQ:=@List.mem_singleton
def cW:=@List.nil_append
def iu:=@List.nodup_append
def gf:=@List.nodup_cons
def Ni:=@List.nodup_iff_pairwise_ne
def ou:=@List.nodup_nil
def gX:=@List.not_mem_nil
def Ed:=@List.not_of_lt_findIdx
def dR:=@List.pairwise_append
def ef:=@List.pairwise_cons
def yi:=@List.pairwise_iff_getElem
def yj:=@List.pairwise_map
def Ee:=@List.pairwise_singleton
def Ef:=@List.perm_iff_count
def Eg:=@List.range_succ
def qM:=@List.replicate_succ'
def Eh:=@List.replicate_zero
def tN:=@List.setIfInBounds_toArray
def yk:=@List.set_append_left
def qN:=@List.set_append_right
def j7:=@List.set_set
def qO:=@List.singleton_append
def lS:=@List.size_toArray
def yl:=@List.sum_append
def kS:=@List.sum_cons
def j8:=@List.tail_cons
def tO:=@List.take_add_one
def kT:=@List.take_append_drop
def lT:=@List.take_append_of_le_length
def qP:=@List.take_left
def fw:=@List.take_length
def cy:=@List.take_of_length_le
def ox:=@List.take_succ_cons
def gC:=@List.take_succ_eq_append_getElem
def jb:=@List.take_zero
def ym:=@Nat.add_comm
def oy:=@Nat.add_sub_cancel
def iw:=@Nat.add_zero
def yn:=@Nat.eq_zero_or_pos
def Ei:=@Nat.le_add_right
def tP:=@Nat.le_of_succ_le_succ
def ak:=@Nat.le_refl
def ar:=@Nat.le_trans
def yo:=@Nat.lt_irrefl
def tQ:=@Nat.lt_of_lt_of_le
def eR:=@Nat.lt_or_ge
def oA:=@Nat.lt_succ_iff_lt_or_eq
def oC:=@Nat.min_eq_left
def qQ:=@Nat.mod_lt
def yp:=@Nat.mod_two_eq_zero_or_one
def qR:=@Nat.mul_add
def Ej:=@Nat.mul_assoc
def tR:=@Nat.mul_comm
def lU:=@Nat.mul_le_mul_left
def tT:=@Nat.mul_zero
def yq:=@Nat.not_lt
def j9:=@Nat.not_lt_zero
def Ek:=@Nat.pow_le_pow_right
def fy:=@Nat.sub_self
def bg:=@Nat.zero_add
def aY:=@Nat.zero_le
def qS:=@Nat.zero_mul
def jc:=@Option.getD_some
def kU:=@Option.map_some
def kV:=@Prod.ext
def yr:=@UInt8.lt_iff_toNat_lt
def je:=@UInt8.toNat_ofNat'
open Go.ChangeShapes Go.WideShapes Go.ChangeAt Go.RowKit
variable{P:Program}{W W':World}
theorem own:ownKnob prog.godebug=none:=by kernel_rfl
theorem laidOut:laidOutB prog=true:=by kernel_rfl
theorem Bx{H:Type}{enc:TypeId×Value->H}(hl:laidOutB P=true)(hb:Below W.heap.size W W'):
  ∀(ts:List TypeId) (vs:List Value) (ds:List (DataW H)) (ps:List MemPlace),ts.all (λt=>P.readableRec t && decide (t<P.types.size))=true->
   DataW.TrodAll enc P W 0 (λ_=>true) true ts vs ds ps->(∀x∈ps,x.block<W.heap.size)->
   DataW.TrodAll enc P W' 0 (λb=>decide (b<W.heap.size)) true ts vs ds ps:=by
 intro ts
 induction ts with
 |nil=>
  intro vs ds ps _ h _;obtain⟨rfl,rfl,rfl⟩:=trodAll_nil h;exact trodAll_mk0
 |cons t ts ih=>
  intro vs ds ps ht h dH;obtain⟨v,vs',d,ds',p,q,rfl,rfl,rfl,h1,h2⟩:=trodAll_cons h;simp only[List.all_cons,Bool.and_eq_true,decide_eq_true_eq]at ht;obtain⟨⟨hr,hs⟩,ht'⟩:=ht;refine trodAll_cons_mk (Below.trod hl hr hs h1 hb λx hx=>dH x (List.mem_append_left _ hx)) (ih _ _ _ (by simpa using ht') h2 λx hx=>dH x (List.mem_append_right _ hx))
theorem Gp{H:Type}{enc:TypeId×Value->H}(hl:laidOutB P=true){f:Func}{s:ChangeSpec}{tb:TypeId}{args:Array Value}{ds gs:List (DataW H)}{before:List MemPlace}
 (hW:DataW.Whole enc P f.params.toList s.vars false W args.toList ds gs before)(hv:s.vars=[])
 (hp:f.params.toList.all (λt=>P.readableRec t && decide (t<P.types.size))=true)(hr:f.resultTypes= #[tb])(htb:P.underlying tb=some .bool)
 (hfn:s.fn H ds={results:=[.lit (.bool true)],args:=ds})(hb:Below W.heap.size W W'):
  s.post enc P f false true false false W args (.bool true) W':=by
 have hW':=hW;obtain⟨p,q,hA,hV,rfl,Rv,xX⟩:=hW;rw[hv]at hV;obtain⟨rfl,rfl⟩:=trodVars_none hV;have dH:=hW'.lt;refine⟨ds,[],_,[],p,[],hW',?_,?_,?_,hb.frame _,λh=>by cases h⟩
 .rw[List.append_nil,hfn,hr];exact trodAll_cons_mk (p':=[]) (shut_bool htb true) trodAll_mk0
 .rw[List.append_nil,hfn];exact Bx hl hb _ _ _ _ hp hA λx hx=>by simpa using dH x (List.mem_append_left _ hx)
 .rw[hv,List.append_nil,hfn];exact rfl
open Go.RowKit
variable{B o g:Nat}{p a:Addr}{v:Value}{t' t:TypeId}{cs':Array Value}{w w':World}{P:Program}{cur cs l:List Value}
def aJ(w:World)(g:Nat)(t:TypeId)(cs:Array Value):Prop:= ∃lo hi,w.heap[g]?=some (.cells cs t (lo,hi))/\(lo=hi\/cs.size<=lo)
structure ag(S:List Nat)(w w':World):Prop where
 os:w'.os=w.os
 tape:w'.tape=w.tape
 output:w'.output=w.output
 size:w.heap.size<=w'.heap.size
 block:∀k,k<w.heap.size->k∉S->w'.heap[k]?=w.heap[k]?
section
variable{w w' OP:World}{g:Nat}{t:TypeId}{cs:Array Value}{S S':List Nat}
theorem ag.refl(S:List Nat)(w:World):ag S w w:=⟨rfl,rfl,rfl,Nat.le_refl _,λ_ _ _=>rfl⟩
theorem ag.aO(h:ag S w w')(k:ag S' w' OP)(hs:∀x∈S',x<w.heap.size->x∈S):ag S w OP:=
 ⟨k.os.trans h.os,k.tape.trans h.tape,k.output.trans h.output,Nat.le_trans h.size k.size,λb hb hn=>
  (k.block b (Nat.lt_of_lt_of_le hb h.size) (λhm=>hn (hs b hm hb))).trans (h.block b hb hn)⟩
theorem ag.trans(h:ag S w w')(k:ag S w' OP):ag S w OP:=h.aO k λ_ hx _=>hx
theorem ag.mono(h:ag S w w')(hs:∀x∈S,x<w.heap.size->x∈S'):ag S' w w':=
 ⟨h.os,h.tape,h.output,h.size,λb hb hn=>h.block b hb λhm=>hn (hs b hm hb)⟩
theorem ag.aj(h:Below w.heap.size w w'):ag S w w':=⟨h.os,h.tape,h.output,h.size,λb hb _=>h.block b hb⟩
theorem ag.below(h:ag S w w')(hs:∀x∈S,w.heap.size<=x):Below w.heap.size w w':=
 ⟨h.os,h.tape,h.output,h.size,λb hb=>h.block b hb λhm=>by have:=hs b hm;omega⟩
theorem ag.aI(h:ag S w w')(hB:B<=w.heap.size)(hs:∀x∈S,B<=x):Below B w w':=
 ⟨h.os,h.tape,h.output,h.size,λb hb=>h.block b (by omega) λhm=>by have:=hs b hm;omega⟩
theorem ag.eo(h:ag [] w w'):Below w.heap.size w w':=h.below (by simp)
theorem ag.drew(h:ag S w w'):ag S w w'.drew:=⟨h.os,h.tape,h.output,h.size,h.block⟩
theorem ag.drewN(h:ag S w w')(n:Nat):ag S w (w'.drewN n):=⟨h.os,h.tape,h.output,h.size,h.block⟩
theorem ag.alloc(h:ag S w w')(o:Obj):ag S w (w'.alloc o):=
 h.trans ⟨rfl,rfl,rfl,by simp,λb hb _=>Below.heap_alloc _ _ _ hb⟩
theorem ag.setCell(h:ag S w w')(hp:p.block<w.heap.size->p.block∈S)(v:Value):ag S w (w'.setCell p v):=
 ⟨h.os,h.tape,h.output,Nat.le_trans h.size (by simp[World.setCell]),λb hb hn=>
  (Below.heap_setCell _ _ _ _ (λe=>hn (by subst e;exact hp hb))).trans (h.block b hb hn)⟩
theorem ag.grown{row:Option Nat}(h:ag S w w')(hg:w'.grownBy OP row)(hr:∀k,row=some k->k<w.heap.size->k∈S):ag S w OP:=
 ⟨hg.os.trans h.os,hg.tape.trans h.tape,hg.output.trans h.output,Nat.le_trans h.size hg.size,λb hb hn=>
  (hg.block b (Nat.lt_of_lt_of_le hb h.size) (λe=>hn (hr b e.symm hb))).trans (h.block b hb hn)⟩
theorem ag.cell(h:ag S w w')(hp:p.block<w.heap.size)(hn:p.block∉S):w'.cell? p=w.cell? p:=World.cell?_of_block (w:=w) (h.block p.block hp hn)
theorem ag.frozen(h:ag S w w')(hp:p.block<w.heap.size)(hn:p.block∉S):w'.frozen? p=w.frozen? p:=World.frozen?_of_block (w:=w) (h.block p.block hp hn)
theorem aJ.of_eq(h:w.heap[g]?=some (.cells cs t (0,0))):aJ w g t cs:=⟨0,0,h,.inl rfl⟩
theorem aJ.of_same(h:aJ w g t cs)(e:w'.heap[g]?=w.heap[g]?):aJ w' g t cs:=by
 obtain⟨lo,hi,h1,h2⟩:=h;exact⟨lo,hi,e.trans h1,h2⟩
theorem aJ.lt(h:aJ w g t cs):g<w.heap.size:=by
 obtain⟨lo,hi,h,_⟩:=h
 rcases Nat.lt_or_ge g w.heap.size with dH|Jn
 .exact dH
 .rw[Array.getElem?_eq_none Jn]at h;cases h
theorem aJ.cell(h:aJ w g t cs)(i:Nat):w.cell? ⟨g,i,none⟩=cs[i]?:=by
 obtain⟨lo,hi,h,_⟩:=h;exact cell_of_row w g i cs t (lo,hi) h
theorem aJ.ab(h:aJ w g t cs){i:Nat}(hv:cs[i]?=some v):w.cell? ⟨g,i,none⟩=some v:=(h.cell i).trans hv
theorem aJ.frozen(h:aJ w g t cs)(i:Nat)(hi:i<cs.size):w.frozen? ⟨g,i,none⟩=false:=by
 obtain⟨lo,oE,h,h2⟩:=h;simp only[World.frozen?,h]
 rcases h2 with rfl|h2
 .simp
 .simp;omega
theorem aJ.new(w:World)(t:TypeId)(cs:Array Value):aJ (w.alloc (.cells cs t)) w.heap.size t cs:= .of_eq (heap_alloc_new w _)
theorem aJ.drew(h:aJ w g t cs):aJ w.drew g t cs:=h
theorem aJ.drewN(h:aJ w g t cs)(n:Nat):aJ (w.drewN n) g t cs:=h
theorem aJ.alloc(h:aJ w g t cs)(o:Obj):aJ (w.alloc o) g t cs:=h.of_same (Below.heap_alloc w o g h.lt)
theorem aJ.bE(h:aJ w g t cs)(i:Nat)(u:Value):aJ (w.setCell ⟨g,i,none⟩ u) g t (cs.setIfInBounds i u):=by
 obtain⟨lo,hi,h,h2⟩:=h;exact⟨lo,hi,by simp[World.setCell,Array.getElem?_modify,h],by simpa using h2⟩
theorem aJ.aW(h:aJ w g t cs)(hp:g≠p.block)(u:Value):aJ (w.setCell p u) g t cs:=h.of_same (Below.heap_setCell w p u g hp)
theorem aJ.below(h:aJ w g t cs)(hb:Below B w w')(hg:g<B):aJ w' g t cs:=h.of_same (hb.block g hg)
theorem aJ.only(h:aJ w g t cs)(hb:ag S w w')(hg:g∉S):aJ w' g t cs:=h.of_same (hb.block g h.lt hg)
theorem aJ.inj(h:aJ w g t cs)(h':aJ w g t' cs'):t=t'/\cs=cs':=by
 obtain⟨lo,hi,h,_⟩:=h;obtain⟨lo',oE,h',_⟩:=h';rw[h]at h';injection h' with h'
 injection h' with e1 e2
 exact⟨e2,e1⟩
theorem aJ.k7{g':Nat}(h:aJ w g t cs)(h':aJ w g' t' cs')(ff:t≠t'):g≠g':=by
 rintro rfl;exact ff (h.inj h').1
end
theorem dS(h:Below B w w')(n:Nat):Below B w (w'.drewN n):=⟨h.os,h.tape,h.output,h.size,h.block⟩
theorem cf(s:ByteArray):s.toList=s.data.toList:=ByteArray.toList_eq s
theorem ss(l:List UInt8)(s:ByteArray):(⟨l.toArray⟩++s:ByteArray)=⟨(l++s.data.toList).toArray⟩:=by
 apply ByteArray.ext;rw[ByteArray.data_append];simp
theorem aB{a b:World}(h:Below w.heap.size w a)(k:Below a.heap.size a b):Below w.heap.size w b:=h.trans (k.mono h.size)
theorem tU(a:Addr)(n:Nat):(a.add n).block=a.block:=by unfold Addr.add;split<;>rfl
theorem JR(a:Addr)(i j:Nat):(a.add i).add j=a.add (i+j):=by
 unfold Addr.add
 by_cases hi:i=0<;>by_cases hj:j=0<;>simp[hi,hj,Nat.add_assoc]
theorem dX(h:w.cell? a=some v):a.block<w.heap.size:=by
 rcases Nat.lt_or_ge a.block w.heap.size with dH|Jn
 .exact dH
 .simp[World.cell?,Array.getElem?_eq_none Jn]at h
theorem cell_lt{k:Nat}(h:w.cell? (a.add k)=some v):a.block<w.heap.size:=by
 rcases Nat.lt_or_ge a.block w.heap.size with dH|Jn
 .exact dH
 .simp[World.cell?,tU,Array.getElem?_eq_none Jn]at h
def bv(b:UInt8):Value:= .int .u8 (b.toNat:Int)
def dI(l:List UInt8):List Value:=l.map bv
@[simp] theorem jK(l:List UInt8):(dI l).length=l.length:=by simp[dI]
theorem cP(l m:List UInt8):dI (l++m)=dI l++dI m:=by simp[dI]
theorem yt(l:List UInt8)(i:Nat):(dI l)[i]?=l[i]?.map bv:=by simp[dI]
theorem tV(l:List UInt8):∀v∈dI l,v.oneCell'=true:=by
 intro v hv;obtain⟨b,_,rfl⟩:=List.mem_map.1 hv;rfl
theorem foldl_push(l:List UInt8):∀s:ByteArray,(l.map λb=>(b.toNat:Int)).foldl (λr n=>r.push (UInt8.ofNat n.toNat)) s=⟨(s.data.toList++l).toArray⟩:=by
 induction l with
 |nil=>intro s;cases s;simp
 |cons b l ih=>
  intro s;simp only[List.map_cons,List.foldl_cons];rw[ih]
  congr 1
  simp[ByteArray.push]
theorem cg(w:World)(src dst e:TypeId)(hs:P.underlying src=some (.slice e))(he:P.underlying e=some (.int .u8))(hd:P.underlying dst=some .string)
 (a:Addr)(len cap:Nat)(l:List UInt8)(hl:l.length=len)(hc:∀j v,(dI l)[j]?=some v->w.cell? (a.add j)=some v):
  (convert src dst (.slice (some a) len cap)).run P w=.ok (.string ⟨l.toArray⟩) w:=by
 subst hl;rw[run_convert_bytes_string w src dst e (some a) l.length cap hs he hd];have h:=run_loadCells_list (P:=P) w a (dI l) hc;rw[jK]at h;have e2:dI l=(l.map λb=>(b.toNat:Int)).map (Value.int .u8):=by simp[dI,bv]
 rw[e2]at h;rw[run_bytesToString w a l.length cap _ h,foldl_push];simp
def putAt(cur:List Value)(o:Nat)(cs:List Value):List Value:=cur.take o++cs++cur.drop (o+cs.length)
theorem vj(cur:List Value)(o:Nat):putAt cur o []=cur:=by simp[putAt]
theorem ke(h:o+cs.length<=cur.length):(putAt cur o cs).length=cur.length:=by
 simp[putAt];omega
theorem ie(z:Value)(n:Nat):madeCells #[z] n=(List.replicate n z).toArray:=by
 apply Array.ext
 .simp[size_madeCells]
 .intro i h1 h2;simp[madeCells,Nat.mod_one]
theorem JS(h:o<cur.length):putAt (cur.set o v) (o+1) cs=putAt cur o (v::cs):=by
 unfold putAt;rw[List.length_cons,List.take_succ_eq_append_getElem (by simpa using h),List.take_set_of_le (Nat.le_refl _),List.getElem_set_self,List.drop_set_of_lt (by omega)];simp[Nat.add_assoc,Nat.add_comm 1]
theorem aJ.setCells :∀(cs:List Value) {w:World} {cur:List Value} (o:Nat),aJ w g t cur.toArray->o+cs.length<=cur.length->aJ (w.setCells g o cs) g t (putAt cur o cs).toArray
 |[],w,cur,o,h,_=>by rw[vj];exact h
 |v::cs,w,cur,o,h,hl=>by
  simp only[List.length_cons]at hl;have h1:=h.bE o v;rw[List.setIfInBounds_toArray]at h1;have h2:=aJ.setCells cs (o+1) h1 (by rw[List.length_set];omega);rw[JS (by omega)]at h2;exact h2
theorem ag.setCells{S:List Nat} :∀(cs:List Value) {w':World} (o:Nat),ag S w w'->(g<w.heap.size->g∈S)->ag S w (w'.setCells g o cs)
 |[],_,_,h,_=>h
 |v::cs,_,o,h,hg=>ag.setCells cs (o+1) (h.setCell (p:=⟨g,o,none⟩) hg v) hg
theorem yL(B:aJ w g t cur.toArray)(dT sT ty elem:TypeId)(o tW yM:Nat)(a:Addr)(JT sCap:Nat)(cs:List Value)
 (hu:P.underlying dT=some (.slice elem))(hs:(P.info? elem).map (·.size)=some 1)(hn:cs.length=Nat.min JT tW)
 (RQ:∀j v,cs[j]?=some v->w.cell? (a.add j)=some v)(rH:o+cs.length<=cur.length)(h1:∀v∈cs,v.oneCell'=true):
  ∃w',(Builtin.copy_ #[dT,sT] ty #[.slice (some ⟨g,o,none⟩) tW yM,.slice (some a) JT sCap]).run P w=.ok (goInt cs.length) w'/\aJ w' g t (putAt cur o cs).toArray/\ag [g] w w':=
 ⟨_,run_copy_cells (P:=P) w dT sT ty elem g o tW yM a JT sCap cs hu hs hn RQ (λj hj=>by rw[B.cell];simp;omega) (λj hj=>B.frozen _ (by simp;omega)) h1,
  B.setCells cs o rH,(ag.refl _ _).setCells cs o (by simp)⟩
theorem mW(B:aJ w g t cur.toArray)(dT sT ty elem:TypeId)(o tW yM:Nat)(s:ByteArray)(n:Nat)
 (hu:P.underlying dT=some (.slice elem))(hs:(P.info? elem).map (·.size)=some 1)(hn:n=Nat.min s.size tW)(rH:o+n<=cur.length):
  ∃w',(Builtin.copy_ #[dT,sT] ty #[.slice (some ⟨g,o,none⟩) tW yM,.string s]).run P w=.ok (goInt n) w'/\aJ w' g t (putAt cur o (dI (s.data.toList.take n))).toArray/\ag [g] w w':=by
 have hl:(dI (s.data.toList.take n)).length=n:=by
  have:n<=s.size:=by rw[hn];exact Nat.min_le_left _ _
  simp;omega
 refine⟨w.setCells g o (dI (s.data.toList.take n)),?_,B.setCells _ o (by omega),(ag.refl _ _).setCells _ o (by simp)⟩;have uV:=run_storeCells_cells (P:=P) g o (dI (s.data.toList.take n)) 0 w (λj hj=>by rw[B.cell];simp;omega) (λj hj=>B.frozen _ (by simp;omega)) (tV _);have e:List.take n (List.map (λb:UInt8=>Value.int .u8 (b.toNat:Int)) s.data.toList)=dI (s.data.toList.take n):=by
  rw[dI,List.map_take];rfl
 cases hq:P.info? elem with
 |none=>simp[hq]at hs
 |some i=>
  simp only[Nat.add_zero]at uV;simp[Builtin.copy_,run_underlying hu,Builtin.lenOf,Builtin.firstCells,sizeOf,typeInfo,hq,<-hn];rw[e,uV];simp[Result.andThen]
theorem bq(B:aJ w g t l.toArray)(o:Nat)(cs:List Value)(h:∀j v,cs[j]?=some v->l[o+j]?=some v):
  ∀j v,cs[j]?=some v->w.cell? ((⟨g,o,none⟩:Addr).add j)=some v:=by
 intro j v hv;have e:(⟨g,o,none⟩:Addr).add j=⟨g,o+j,none⟩:=by unfold Addr.add;split<;>simp_all
 rw[e,B.cell];simpa using h j v hv
def aT(w:World)(e:TypeId)(size:Nat)(v:Value)(n:Nat)(l:List Value):Prop:=
 l.length=n*size/\((v=.slice none 0 0/\n=0)\/
  ∃g cap rest,v=.slice (some ⟨g,0,none⟩) n cap/\aJ w g e (l++rest).toArray/\l.length+rest.length=cap*size/\cap<=maxLen)
def ai:Value->List Nat
 |.slice (some a) _ _=>[a.block]
 |_=>[]
section
variable{w w':World}{e:TypeId}{size:Nat}{v:Value}{n:Nat}{l:List Value}{S:List Nat}
theorem aT.nil(w:World)(e:TypeId)(size:Nat):aT w e size (.slice none 0 0) 0 []:=⟨by simp,.inl ⟨rfl,rfl⟩⟩
theorem aT.only(h:aT w e size v n l)(ho:ag S w w')(hd:∀g∈ai v,g∉S):aT w' e size v n l:=by
 refine⟨h.1,h.2.imp id ?_⟩;rintro⟨g,cap,rest,rfl,B,hc,hm⟩;exact⟨g,cap,rest,rfl,B.only ho (hd g (by simp[ai])),hc,hm⟩
theorem aT.below(h:aT w e size v n l)(hb:Below w.heap.size w w'):aT w' e size v n l:=h.only (S:=[]) (.aj hb) (by simp)
theorem aT.drew(h:aT w e size v n l):aT w.drew e size v n l:=h
theorem aT.alloc(h:aT w e size v n l)(o:Obj):aT (w.alloc o) e size v n l:=h.only (S:=[]) ((ag.refl _ _).alloc o) (by simp)
theorem aT.lt(h:aT w e size v n l):∀g∈ai v,g<w.heap.size:=by
 rcases h.2 with⟨rfl,_⟩|⟨g,cap,rest,rfl,B,_⟩
 .simp[ai]
 .intro x hx;simp[ai]at hx;subst hx;exact B.lt
theorem aT.yN{base:Nat}(h:w.ownsRow base e size v n l):aT w e size v n l:=by
 refine⟨h.1,h.2.imp id ?_⟩;rintro⟨g,cap,cur,rfl,_,hh,Gq,hm,hs,ht⟩;have pF:cur.toList.length=cap*size:=by simpa using hs
 refine⟨g,cap,cur.toList.drop (n*size),rfl,?_,?_,hm⟩
 .rw[<-ht,List.take_append_drop];exact .of_eq hh
 .rw[h.1,List.length_drop,pF];have:n*size<=cap*size:=Nat.mul_le_mul_right _ Gq;omega
theorem aT.form(h:aT w e size v n l)(hn:0<n)(hs:0<size):∃g cap rest,v=.slice (some ⟨g,0,none⟩) n cap/\aJ w g e (l++rest).toArray/\n<=cap/\l.length+rest.length=cap*size:=by
 rcases h.2 with⟨_,h0⟩|⟨g,cap,rest,rfl,B,hc,_⟩
 .omega
 .refine⟨g,cap,rest,rfl,B,?_,hc⟩;have h1:=h.1;have:n*size<=cap*size:=by omega
  exact Nat.le_of_mul_le_mul_right this hs
theorem aT.tx{n' cap:Nat}(h:aT w e size (.slice (some ⟨g,0,none⟩) n' cap) n l):∃rest,aJ w g e (l++rest).toArray/\l.length+rest.length=cap*size/\n'=n/\cap<=maxLen:=by
 rcases h.2 with⟨h0,_⟩|⟨g',Gr,rest,hv,B,hc,hm⟩
 .simp at h0
 .simp only[Value.slice.injEq,Option.some.injEq,Addr.mk.injEq,and_true]at hv;obtain⟨rfl,rfl,rfl⟩:=hv;exact⟨rest,B,hc,rfl,hm⟩
end
theorem dk{e:TypeId}{size:Nat}{n:Nat}(h:aT w e size v n l)
 (t ty:TypeId)(i:TypeInfo)(z:Value)(bytes:Nat)(ht:P.underlying t=some (.slice e))(hi:P.info? e=some i)(hz:i.zero=some z)
 (yO:i.size=size)(hby:i.bytes=bytes)(hzs:z.cells.size=size)(pF:0<size)
 (a:Addr)(m c:Nat)(news:List Value)(hl:news.length=m*size)(Ci:∀j u,news[j]?=some u->w.cell? (a.add j)=some u)(h1:∀u∈news,u.oneCell'=true)
 (El:n+m<=maxLen)(JU:(n+m)*bytes<=140737488355328):
  ∃v' w',(Builtin.append_ #[t,t] ty #[v,.slice (some a) m c]).run P w=.ok v' w'/\aT w' e size v' (n+m) (l++news)/\ag (ai v) w w'/\(∀g∈ai v',g∈ai v\/w.heap.size<=g):=by
 rcases h.2 with⟨rfl,rfl⟩|⟨g,cap,rest,rfl,B,hc,hm⟩
 .have nG:l=[]:=List.eq_nil_of_length_eq_zero (by simpa using h.1);subst nG;obtain⟨v',w',hr,h2,h3,_⟩:=run_append_own (P:=P) w w.heap.size t ty e i z size bytes ht hi hz yO hby hzs pF (.slice none 0 0) 0 [] (World.ownsRow_nil _ _ _ _) a m c news hl Ci h1 El JU (Nat.le_refl _);refine⟨v',w',hr,.yN h2,(ag.refl _ _).grown h3 (by simp[Value.ownBlock]),?_⟩;intro g hg
  rcases h2.2 with⟨rfl,_⟩|⟨g',cap,cur,rfl,hb,_⟩
  .simp[ai]at hg
  .simp[ai]at hg;subst hg;exact .inr hb
 .by_cases hr:n+m<=cap
  .subst yO;have hmul:(n+m)*i.size<=cap*i.size:=Nat.mul_le_mul_right _ hr;rw[Nat.add_mul]at hmul;have hh:=h.1;have yP:=run_append_room_cells (P:=P) w t ty e i ht hi g 0 n cap a m c news hl Ci h1 hr (λj hj=>by rw[B.cell];simp;omega) (λj hj=>B.frozen _ (by simp;omega));refine⟨_,_,yP,⟨by simp[hh,hl,Nat.add_mul],.inr ⟨g,cap,rest.drop news.length,rfl,?_,by simp;omega,hm⟩⟩,(ag.refl _ _).setCells news _ (by simp[ai]),by simp[ai]⟩
   have B2:=B.setCells news (0+n*i.size) (by simp;omega);have e2:putAt (l++rest) (0+n*i.size) news=l++news++rest.drop news.length:=by
    unfold putAt;rw[Nat.zero_add,<-hh,List.take_left,<-List.drop_drop,List.drop_left]
   rwa [e2]at B2
  .obtain⟨v',w',yP,h2,h3⟩:=run_append_arg_grows (P:=P) w t ty e i z size bytes ht hi hz yO hby hzs pF ⟨g,0,none⟩ n cap l h.1 (bq B 0 l (by intro j u hu;rw[Nat.zero_add];exact List.getElem?_append_left (List.getElem?_eq_some_iff.1 hu).1▸hu)) a m c news hl Ci (by omega) El JU;refine⟨v',w',yP,.yN h2,(ag.refl _ _).grown h3 (by simp),?_⟩;intro g' hg
   rcases h2.2 with⟨rfl,_⟩|⟨g'',Gr,cur,rfl,hb,_⟩
   .simp[ai]at hg
   .simp[ai]at hg;subst hg;exact .inr hb
theorem wpList_append_run{ops:Array Oper}{rest:List Oper}{o:Oper}{a:Act}{Q:Exit->Act->World->Prop}(hgd:o.guard=none)(s x:Operand)(t:TypeId)
 (ho:o.op= .call {callee:= .builtin .append,args:= #[s,x],argTypes:= #[t,t]})(v xv:Value)(hs:a.eval s=v)(hx:a.eval x=xv){v':Value} 
 (yP:(Builtin.append_ #[t,t] o.type #[v,xv]).run P w=.ok v' w')(h:wpList P ops Q rest (a.put o.dst v') w'):wpList P ops Q (o::rest) a w:=by
 refine wpList_plain hgd λK hK=>?_;unfold Oper.wp;simp[execOp,ho,resolve,invoke,builtin,hs,hx,yP,Result.andThen];exact hK _ _ h
theorem xY(w:World)(src dst e:TypeId)(s:ByteArray)(hs:P.underlying src=some .string)(hd:P.underlying dst=some (.slice e))(he:P.underlying e=some (.int .u8))(hm:s.size<=maxLen):
  ∃cap w',(convert src dst (.string s)).run P w=.ok (.slice (some ⟨w.heap.size,0,none⟩) s.size cap) w'/\aT w' e 1 (.slice (some ⟨w.heap.size,0,none⟩) s.size cap) s.size (dI s.data.toList)/\Below w.heap.size w w':=by
 refine⟨_,_,run_bytes_of_string (P:=P) w src dst e s hs hd he,⟨by simp,.inr ⟨w.heap.size,_,List.replicate (grownCap w s.size 0 e-s.size) (.int .u8 0),rfl,?_,?_,grownCap_le_maxLen _ _ _ _ hm⟩⟩,?_⟩
 .have e1:bytesRow s (grownCap w s.size 0 e)=(dI s.data.toList++List.replicate (grownCap w s.size 0 e-s.size) (Value.int .u8 0)).toArray:=by
   apply Array.toList_inj.1;simp[bytesRow,dI];exact λ_ _=>rfl
  rw[e1];exact⟨_,_,heap_alloc_new w.drew _,.inr (Nat.le_refl _)⟩
 .have:=grownCap_ge w s.size 0 e;simp;omega
 .exact⟨rfl,rfl,rfl,by simp,λk hk=>Below.heap_alloc w.drew _ k hk⟩
variable{w:World}{e:TypeId}{v:Value}{n:Nat}{l:List Value}
noncomputable def dP(P:Program)(T ty:TypeId)(w:World)(s x:Value):Result Value:=(Builtin.append_ #[T,T] ty #[s,x]).run P w
theorem bz(P:Program)(ρ:Operand->Value)(dst:Option Tmp)(s x:Operand)(T t:TypeId)(p:String)(af:Array Edge)(g:Option (Nat×Bool))(w:World):
  (execOp ρ {dst:=dst,op:= .call {callee:= .builtin .append,args:= #[s,x],argTypes:= #[T,T]},type:=t,pos:=p,after:=af,guard:=g}).run P w=(dP P T t w (ρ s) (ρ x)).andThen λv w'=> .ok (.value v) w':=by
 simp[execOp,resolve,invoke,builtin,dP]
theorem cQ{P:Program}(S:aT w e 1 v n l)
 (T ty:TypeId)(z:Value)(bytes:Nat)(ht:P.underlying T=some (.slice e))(mx:(P.info? e).map (λi=>(i.zero,i.size,i.bytes))=some (some z,1,bytes))(hz:z.cells.size=1)
 (x:Value)(hx:x.oneCell'=true)(El:n+1<=maxLen)(hb:(n+1)*bytes<=140737488355328):
  ∃v' w',dP P T ty (w.alloc (.cells #[x] e)) v (.slice (some ⟨w.heap.size,0,none⟩) 1 1)= .ok v' w'/\aT w' e 1 v' (n+1) (l++[x])/\ag (ai v) w w'/\(∀g∈ai v',g∈ai v\/w.heap.size<=g):=by
 obtain⟨i0,hi,kx,ju,kg⟩:=info_parts mx;obtain⟨v',w',h1,h2,h3,h4⟩:=dk (P:=P) (S.alloc (.cells #[x] e)) T ty i0 z bytes ht hi kx ju kg hz (by omega)
  ⟨w.heap.size,0,none⟩ 1 1 [x] rfl (bq (l:=[x]) (aJ.new w e #[x]) 0 _ (by simp)) (by intro u hu;simp at hu;subst hu;exact hx) El hb
 exact⟨v',w',h1,h2,((ag.refl _ _).alloc _).aO h3 (λx hx _=>hx),λg hg=>(h4 g hg).imp id (λh=>by simp at h;omega)⟩
theorem au{size:Nat}(S:aT w e size v n l):∃A c,v=.slice A n c:=by
 rcases S.2 with⟨rfl,rfl⟩|⟨g,cap,rest,rfl,_⟩
 .exact⟨none,0,rfl⟩
 .exact⟨_,cap,rfl⟩
variable{P:Program}{i fuel d n:Nat}{v:Value}{w:World}{e:TypeId}
theorem pa{α:Type}(l:List α)(i:Nat)(a:α):l.toArray.setIfInBounds i a=(l.set i a).toArray:=by simp
theorem pb{α:Type}(a b:α)(l:List α):(a::l).set 0 b=b::l:=rfl
theorem pc{α:Type}(a b:α)(l:List α)(n:Nat):(a::l).set (n+1) b=a::l.set n b:=rfl
theorem tkf{ops:Array Oper}{Q:Exit->Act->World->Prop}{md:Region.Mode}{S:World->Prop}{oi:Oper}{bQ:Array Bool}{a:Act}(hi:ops[i]?=some oi)
 (hb:(Region.noSelect ops && (Region.free md ops bQ i && ((Region.ready md ops bQ).contains i && Region.wanted oi (yielded ops a.tmps))))=true)
 (hQ:∀c a w,Q (.panic c) (a.put oi.dst v) w->Q (.panic c) a w)(hS:S w)(y:∀w,S w->(execOp a.eval oi).run P w=.ok (.value v) w)
 (h:wpAnyH P md ops Q S fuel (bQ.setIfInBounds i true) (a.put oi.dst v) w):wpAnyH P md ops Q S (fuel+1) bQ a w:=by
 simp only[Bool.and_eq_true]at hb;exact wpAnyH_take hi hb.1 hb.2.1 hb.2.2.1 hQ (Or.inl ⟨hb.2.2.2,y⟩) hS h
def Zpl(_:List (Nat×Nat))(g:Prop):Prop:=g
theorem bM(l:List (Nat×Nat)){g:Prop}(h:Zpl l g):g:=h
theorem zpe{g:Prop}(h:g):Zpl [] g:=h
theorem ztp{ops:Array Oper}{Q:Exit->Act->World->Prop}{md:Region.Mode}{S:World->Prop}{l:List (Nat×Nat)}{x1 x2 x3 x4 x5}{bQ:Array Bool}{a:Act}(hi:ops[i]?=some ⟨some d,x1,x2,x3,x4,x5⟩)
 (hb:(Region.noSelect ops && (Region.free md ops bQ i && ((Region.ready md ops bQ).contains i && Region.wanted ⟨some d,x1,x2,x3,x4,x5⟩ (yielded ops a.tmps))))=true)
 (hQ:∀c a w,Q (.panic c) (a.put (some d) v) w->Q (.panic c) a w)(hS:S w)(y:∀w,S w->(execOp a.eval ⟨some d,x1,x2,x3,x4,x5⟩).run P w=.ok (.value v) w)
 (h:Zpl l (wpAnyH P md ops Q S fuel (bQ.setIfInBounds i true) (a.put (some d) v) w)):Zpl ((i,d)::l) (wpAnyH P md ops Q S (fuel+1) bQ a w):=tkf hi hb hQ hS y h
theorem zt{ops:Array Oper}{Q:Exit->Act->World->Prop}{md:Region.Mode}{S:World->Prop}{l:List (Nat×Nat)}{x1 x2 x3 x4 x5}{bQ:Array Bool}{a:Act} 
 (h:Zpl l (wpAnyH P md ops Q S fuel (bQ.setIfInBounds i true) (a.put (some d) v) w))(hi:ops[i]?=some ⟨some d,x1,x2,x3,x4,x5⟩:=by rfl)
 (hb:(Region.noSelect ops && (Region.free md ops bQ i && ((Region.ready md ops bQ).contains i && Region.wanted ⟨some d,x1,x2,x3,x4,x5⟩ (yielded ops a.tmps))))=true:=by kernel_rfl)
 (hQ:∀c a w,Q (.panic c) (a.put (some d) v) w->Q (.panic c) a w:=by exact λ_ _ _ h=>h)(hS:S w:=by assumption)
 (y:∀w,S w->(execOp a.eval ⟨some d,x1,x2,x3,x4,x5⟩).run P w=.ok (.value v) w:=by intro w hS;(try dsimp only at hS);go_simp;try with_reducible rfl):Zpl ((i,d)::l) (wpAnyH P md ops Q S (fuel+1) bQ a w):=ztp hi hb hQ hS y h
theorem tkd{ops:Array Oper}{Q:Exit->Act->World->Prop}{md:Region.Mode}{S:World->Prop}{oi:Oper}{bQ:Array Bool}{a:Act} 
 (hQ:∀c a w,Q (.panic c) (a.put oi.dst v) w->Q (.panic c) a w)(h:wpAnyH P md ops Q S fuel (bQ.setIfInBounds i true) (a.put oi.dst v) w)(hi:ops[i]?=some oi:=by rfl)
 (hb:(Region.noSelect ops && (Region.free md ops bQ i && ((Region.ready md ops bQ).contains i && Region.wanted oi (yielded ops a.tmps))))=true:=by kernel_rfl)
 (hS:S w:=by assumption)(y:∀w,S w->(execOp a.eval oi).run P w=.ok (.value v) w:=by intro w hS;(try dsimp only at hS);go_simp;try with_reducible rfl):wpAnyH P md ops Q S (fuel+1) bQ a w:=tkf hi hb hQ hS y h
theorem rd1{ops:Array Oper}{Q:Exit->Act->World->Prop}{md:Region.Mode}{S:World->Prop}{bQ:Array Bool}{a:Act}{o:Oper}
 (h:∀K':Act->World->Prop,Shut (∀a w,S w->(S w->wpAnyH P md ops Q S fuel (bQ.setIfInBounds i true) a w)->K' a w)->if Region.wanted o (yielded ops a.tmps)=true then Oper.wp P o a w K' Q else K' (a.put o.dst undef) w)
 (hr:Region.ready md ops bQ=[i]:=by kernel_rfl)(ho:ops[i]?=some o:=by rfl):wpAnyH P md ops Q S (fuel+1) bQ a w:=wpAnyH_ready hr (by simp) (AllReadyH.cons ho h AllReadyH.nil)
theorem tks{ops:Array Oper}{Q:Exit->Act->World->Prop}{md:Region.Mode}{S:World->Prop}{oi:Oper}{bQ:Array Bool}{a:Act}(hi:ops[i]?=some oi)
 (hb:(Region.noSelect ops && (Region.free md ops bQ i && ((Region.ready md ops bQ).contains i && !(Region.wanted oi (yielded ops a.tmps)))))=true)
 (hQ:∀c a w,Q (.panic c) (a.put oi.dst undef) w->Q (.panic c) a w)(hS:S w)
 (h:wpAnyH P md ops Q S fuel (bQ.setIfInBounds i true) (a.put oi.dst undef) w):wpAnyH P md ops Q S (fuel+1) bQ a w:=by
 simp only[Bool.and_eq_true,Bool.not_eq_true']at hb;exact wpAnyH_take hi hb.1 hb.2.1 hb.2.2.1 hQ (Or.inr ⟨hb.2.2.2,rfl⟩) hS h
theorem RT{α:Type}(l:List α)(i:Nat)(a:α):l.toArray.setIfInBounds i a=(l.set i a).toArray:=pa l i a
theorem RU{α:Type}(a b:α)(l:List α):(a::l).set 0 b=b::l:=rfl
theorem RY{α:Type}(a b:α)(l:List α)(n:Nat):(a::l).set (n+1) b=a::l.set n b:=rfl
theorem aG{ops:Array Oper}{Q:Exit->Act->World->Prop}{md:Region.Mode}{S:World->Prop}{l:List (Nat×Nat)}{x1 x2 x3 x4 x5}{bQ:Array Bool}{a a':Act} 
 (h:Zpl l (wpAnyH P md ops Q S fuel (bQ.setIfInBounds i true) a' w))(hi:ops[i]?=some ⟨some d,x1,x2,x3,x4,x5⟩:=by rfl)
 (hb:(Region.noSelect ops && (Region.free md ops bQ i && ((Region.ready md ops bQ).contains i && Region.wanted ⟨some d,x1,x2,x3,x4,x5⟩ (yielded ops a.tmps))))=true:=by kernel_rfl)
 (hQ:∀c a w,Q (.panic c) (a.put (some d) v) w->Q (.panic c) a w:=by exact λ_ _ _ h=>h)(hS:S w:=by assumption)
 (y:∀w,S w->(execOp a.eval ⟨some d,x1,x2,x3,x4,x5⟩).run P w=.ok (.value v) w:=by intro w hS;(try dsimp only at hS);go_simp;try with_reducible rfl)
 (ha:a.put (some d) v=a':=by simp only[Act.put,RT,RU,RY];exact rfl):Zpl ((i,d)::l) (wpAnyH P md ops Q S (fuel+1) bQ a w):=ztp hi hb hQ hS y (ha▸h)
theorem cH{ops:Array Oper}{Q:Exit->Act->World->Prop}{md:Region.Mode}{S:World->Prop}(i d:Nat){x1 x2 x3 x4 x5}{bQ:Array Bool}{a a':Act} 
 (hQ:∀c a w,Q (.panic c) (a.put (some d) v) w->Q (.panic c) a w)(h:wpAnyH P md ops Q S fuel (bQ.setIfInBounds i true) a' w)(hi:ops[i]?=some ⟨some d,x1,x2,x3,x4,x5⟩:=by rfl)
 (hb:(Region.noSelect ops && (Region.free md ops bQ i && ((Region.ready md ops bQ).contains i && Region.wanted ⟨some d,x1,x2,x3,x4,x5⟩ (yielded ops a.tmps))))=true:=by kernel_rfl)
 (hS:S w:=by assumption)(y:∀w,S w->(execOp a.eval ⟨some d,x1,x2,x3,x4,x5⟩).run P w=.ok (.value v) w:=by intro w hS;(try dsimp only at hS);go_simp;try with_reducible rfl)
 (ha:a.put (some d) v=a':=by simp only[Act.put,RT,RU,RY];exact rfl):wpAnyH P md ops Q S (fuel+1) bQ a w:=tkf hi hb hQ hS y (ha▸h)
theorem cG{ops:Array Oper}{Q:Exit->Act->World->Prop}{md:Region.Mode}{S:World->Prop}(i d:Nat){x1 x2 x3 x4 x5}{bQ:Array Bool}{a a':Act} 
 (h:wpAnyH P md ops Q S fuel (bQ.setIfInBounds i true) a' w)(hi:ops[i]?=some ⟨some d,x1,x2,x3,x4,x5⟩:=by rfl)
 (hb:(Region.noSelect ops && (Region.free md ops bQ i && ((Region.ready md ops bQ).contains i && !(Region.wanted ⟨some d,x1,x2,x3,x4,x5⟩ (yielded ops a.tmps)))))=true:=by kernel_rfl)
 (hQ:∀c a w,Q (.panic c) (a.put (some d) undef) w->Q (.panic c) a w:=by exact λ_ _ _ h=>h)(hS:S w:=by assumption)
 (ha:a.put (some d) undef=a':=by simp only[Act.put,RT,RU,RY];exact rfl):wpAnyH P md ops Q S (fuel+1) bQ a w:=tks hi hb hQ hS (ha▸h)
theorem bY{ops:Array Oper}{Q:Exit->Act->World->Prop}{md:Region.Mode}{S:World->Prop}{bQ:Array Bool}{a:Act}(i d:Nat){x1 x2 x3 x4 x5}
 (h:∀K':Act->World->Prop,Shut (∀a w,S w->(S w->wpAnyH P md ops Q S fuel (bQ.setIfInBounds i true) a w)->K' a w)->if Region.wanted ⟨some d,x1,x2,x3,x4,x5⟩ (yielded ops a.tmps)=true then Oper.wp P ⟨some d,x1,x2,x3,x4,x5⟩ a w K' Q else K' (a.put (some d) undef) w)
 (hr:Region.ready md ops bQ=[i]:=by kernel_rfl)(ho:ops[i]?=some ⟨some d,x1,x2,x3,x4,x5⟩:=by rfl):wpAnyH P md ops Q S (fuel+1) bQ a w:=wpAnyH_ready hr (by simp) (AllReadyH.cons ho h AllReadyH.nil)
theorem dv{ops:Array Oper}{Q:Exit->Act->World->Prop}{md:Region.Mode}{S:World->Prop}{bQ:Array Bool}{a:Act}(i:Nat){x1 x2 x3 x4 x5}
 (h:∀K':Act->World->Prop,Shut (∀a w,S w->(S w->wpAnyH P md ops Q S fuel (bQ.setIfInBounds i true) a w)->K' a w)->if Region.wanted ⟨none,x1,x2,x3,x4,x5⟩ (yielded ops a.tmps)=true then Oper.wp P ⟨none,x1,x2,x3,x4,x5⟩ a w K' Q else K' (a.put none undef) w)
 (hr:Region.ready md ops bQ=[i]:=by kernel_rfl)(ho:ops[i]?=some ⟨none,x1,x2,x3,x4,x5⟩:=by rfl):wpAnyH P md ops Q S (fuel+1) bQ a w:=wpAnyH_ready hr (by simp) (AllReadyH.cons ho h AllReadyH.nil)
theorem ni{ops:Array Oper}{Q:Exit->Act->World->Prop}{md:Region.Mode}{S:World->Prop}(i d:Nat){x1 x2 x3 x4 x5}(v:Value){bQ:Array Bool}{a a':Act} 
 (y:∀w,S w->(execOp a.eval ⟨some d,x1,x2,x3,x4,x5⟩).run P w=.ok (.value v) w)(h:wpAnyH P md ops Q S fuel (bQ.setIfInBounds i true) a' w)(hi:ops[i]?=some ⟨some d,x1,x2,x3,x4,x5⟩:=by rfl)
 (hb:(Region.noSelect ops && (Region.free md ops bQ i && ((Region.ready md ops bQ).contains i && Region.wanted ⟨some d,x1,x2,x3,x4,x5⟩ (yielded ops a.tmps))))=true:=by kernel_rfl)
 (hQ:∀c a w,Q (.panic c) (a.put (some d) v) w->Q (.panic c) a w:=by exact λ_ _ _ h=>h)(hS:S w:=by assumption)
 (ha:a.put (some d) v=a':=by simp only[Act.put,RT,RU,RY];exact rfl):wpAnyH P md ops Q S (fuel+1) bQ a w:=tkf hi hb hQ hS y (ha▸h)
theorem aA{S:World->Prop}{W K':Act->World->Prop}{a a':Act}(hK:Shut (∀a w,S w->(S w->W a w)->K' a w))(hS:S w)(h:S w->W a' w)(ha:a=a':=by(try simp only[Act.put,RT,RU,RY]);exact rfl):K' a w:=Shut.o hK _ _ hS (ha▸h)
theorem aE{p q:Prop}(h:q)(e:p:=by first|rfl|simp):p/\q:=⟨e,h⟩
theorem wX{size:Nat}{x:Value}{m:Nat}{l lx:List Value}(h:aT w e size v n l)(hx:aT w e size x m lx)
 (T ty:TypeId)(z:Value)(bytes:Nat)(ht:P.underlying T=some (.slice e))(mx:(P.info? e).map (λi=>(i.zero,i.size,i.bytes))=some (some z,size,bytes))(hz:z.cells.size=size)(hs:0<size)
 (h1:∀u∈lx,u.oneCell'=true)(El:n+m<=maxLen)(hb:(n+m)*bytes<=140737488355328):
  ∃v' w',dP P T ty w v x=.ok v' w'/\aT w' e size v' (n+m) (l++lx)/\ag (ai v) w w'/\(∀g∈ai v',g∈ai v\/w.heap.size<=g):=by
 obtain⟨i0,hi,kx,ju,kg⟩:=info_parts mx;have Gs:=hx.1
 rcases hx.2 with⟨rfl,rfl⟩|⟨g,cap,rest,rfl,B,hc,hm⟩
 .have nG:lx=[]:=List.eq_nil_of_length_eq_zero (by simpa using Gs);subst nG;refine⟨v,w,?_,by simpa using h,ag.refl _ _,λx hx=> .inl hx⟩;unfold dP
  rcases h.2 with⟨rfl,h0⟩|⟨g,cap,rest,rfl,BB,hc,hm⟩
  .simp[Builtin.append_,run_underlying ht,sizeOf,typeInfo,hi,Builtin.lenOf,Builtin.firstCells]
  .have hl:=h.1;have Gq:n<=cap:=by
    have:n*size<=cap*size:=by omega
    exact Nat.le_of_mul_le_mul_right this hs
   simp[Builtin.append_,run_underlying ht,sizeOf,typeInfo,hi,Builtin.lenOf,Builtin.firstCells,Gq,storeCells]
 .obtain⟨v',w',e1,h2,h3,h4⟩:=dk (P:=P) h T ty i0 z bytes ht hi kx ju kg hz hs ⟨g,0,none⟩ m cap lx Gs (bq B 0 lx (by intro j u hu;rw[Nat.zero_add];exact List.getElem?_append_left (List.getElem?_eq_some_iff.1 hu).1▸hu)) h1 El hb;exact⟨v',w',e1,h2,h3,h4⟩
theorem exl'(u:ByteArray)(a b:Nat):(u.extract a b).data.toList=(u.data.toList.drop a).take (b-a):=by
 rw[ByteArray.data_extract,Array.toList_extract,List.extract_eq_take_drop]
theorem yQ{f:FuncId}{args:Array Value}(h:Calls P f args (w.drewN n) λe w'=>e=.returned v/\w.drewN n=w'):Calls P f args (w.drewN n) λe OP=>e=.returned v/\∃m,OP=w.drewN m:=h.mono λ_ _ ⟨he,hm⟩=>⟨he,n,hm.symm⟩
theorem yu{l:List UInt8}(S:aT w e 1 v n (dI l))(src dst:TypeId)(hs:P.underlying src=some (.slice e))(he:P.underlying e=some (.int .u8))(hd:P.underlying dst=some .string):
  (convert src dst v).run P w=.ok (.string ⟨l.toArray⟩) w:=by
 have hl:=S.1
 rcases S.2 with⟨rfl,rfl⟩|⟨g,cap,rest,rfl,B,hc,_⟩
 .have nG:l=[]:=List.eq_nil_of_length_eq_zero (by simpa using hl);subst nG;rw[run_convert_bytes_string w src dst e none 0 0 hs he hd];rfl
 .exact cg (P:=P) w src dst e hs he hd ⟨g,0,none⟩ n cap l (by simpa using hl) (bq B 0 _ (by intro j u hu;rw[Nat.zero_add];exact List.getElem?_append_left (List.getElem?_eq_some_iff.1 hu).1▸hu))
variable{P:Program}{w:World}{e:TypeId}{v:Value}{n:Nat}{l:List Value}
def cw:Value->List Nat
 |.slice (some a) _ c=>if c=0 then []else [a.block]
 |_=>[]
def Sl(w:World)(e:TypeId)(v:Value)(n:Nat)(l:List Value):Prop:=
 l.length=n/\((∃A,v=.slice A 0 0/\n=0)\/
  ∃g cap rest,v=.slice (some ⟨g,0,none⟩) n cap/\0<cap/\aJ w g e (l++rest).toArray/\l.length+rest.length=cap/\cap<=maxLen)
section
variable{w w':World}{e:TypeId}{v:Value}{n:Nat}{l:List Value}{S:List Nat}
theorem Sl.nil(w:World)(e:TypeId):Sl w e (.slice none 0 0) 0 []:=⟨rfl,.inl ⟨none,rfl,rfl⟩⟩
theorem Sl.vk(h:aT w e 1 v n l):Sl w e v n l:=by
 have hl:=h.1;refine⟨by omega,?_⟩
 rcases h.2 with⟨rfl,rfl⟩|⟨g,cap,rest,rfl,B,hc,hm⟩
 .exact .inl ⟨none,rfl,rfl⟩
 .by_cases h0:cap=0
  .subst h0;have:n=0:=by omega
   subst this;exact .inl ⟨_,rfl,rfl⟩
  .exact .inr ⟨g,cap,rest,rfl,by omega,B,by omega,hm⟩
theorem Sl.only(h:Sl w e v n l)(ho:ag S w w')(hd:∀g∈cw v,g∉S):Sl w' e v n l:=by
 refine⟨h.1,h.2.imp id ?_⟩;rintro⟨g,cap,rest,rfl,h0,B,hc,hm⟩;exact⟨g,cap,rest,rfl,h0,B.only ho (hd g (by simp[cw];omega)),hc,hm⟩
theorem Sl.below(h:Sl w e v n l)(hb:Below w.heap.size w w'):Sl w' e v n l:=h.only (S:=[]) (.aj hb) (by simp)
theorem Sl.drew(h:Sl w e v n l):Sl w.drew e v n l:=h
theorem Sl.alloc(h:Sl w e v n l)(o:Obj):Sl (w.alloc o) e v n l:=h.only (S:=[]) ((ag.refl _ _).alloc o) (by simp)
theorem Sl.lt(h:Sl w e v n l):∀g∈cw v,g<w.heap.size:=by
 rcases h.2 with⟨A,rfl,_⟩|⟨g,cap,rest,rfl,h0,B,_⟩
 .cases A<;>simp[cw]
 .intro x hx;simp[cw]at hx;rw[hx.2];exact B.lt
theorem Sl.val(h:Sl w e v n l):∃A c,v=.slice A n c/\n<=c:=by
 rcases h.2 with⟨A,rfl,rfl⟩|⟨g,cap,rest,rfl,_,_,hc,_⟩
 .exact⟨A,0,rfl,Nat.le_refl _⟩
 .exact⟨_,cap,rfl,by have:=h.1;omega⟩
theorem Sl.form(h:Sl w e v n l)(hn:0<n):∃g cap rest,v=.slice (some ⟨g,0,none⟩) n cap/\aJ w g e (l++rest).toArray/\n<=cap/\l.length+rest.length=cap:=by
 rcases h.2 with⟨_,_,h0⟩|⟨g,cap,rest,rfl,_,B,hc,_⟩
 .omega
 .exact⟨g,cap,rest,rfl,B,by have:=h.1;omega,hc⟩
theorem Sl.bE(h:Sl w e v n l)(k:Nat)(hk:k<n)(u:Value):∃g c,v=.slice (some ⟨g,0,none⟩) n c/\Sl (w.setCell ⟨g,k,none⟩ u) e v n (l.set k u)/\cw v=[g]/\w.frozen? ⟨g,k,none⟩=false/\ag [g] w (w.setCell ⟨g,k,none⟩ u):=by
 rcases h.2 with⟨A,rfl,h0⟩|⟨g,cap,rest,rfl,h0,B,hc,hm⟩
 .omega
 .have hl:=h.1;refine⟨g,cap,rfl,⟨by rw[List.length_set];exact hl,.inr ⟨g,cap,rest,rfl,h0,?_,by rw[List.length_set];exact hc,hm⟩⟩,by simp[cw];omega,B.frozen k (by simp;omega),(ag.refl _ _).setCell (by simp) _⟩;have B2:=B.bE k u;rw[List.setIfInBounds_toArray,List.set_append_left _ _ (by omega)]at B2;exact B2
theorem Sl.cut(h:Sl w e v n l){A:Option Addr}{c:Nat}(hv:v=.slice A n c)(k:Nat)(hk:k<=n):Sl w e (.slice A k c) k (l.take k):=by
 have hl:=h.1;refine⟨by rw[List.length_take];omega,?_⟩
 rcases h.2 with⟨A',h1,h0⟩|⟨g,cap,rest,h1,h0,B,hc,hm⟩
 .rw[hv]at h1;injection h1 with h1 h2 h3
  subst h3;exact .inl ⟨A,by rw[show k=0 by omega],by omega⟩
 .rw[hv]at h1;injection h1 with h1 h2 h3
  subst h1 h3;exact .inr ⟨g,c,l.drop k++rest,rfl,h0,by rw[<-List.append_assoc,List.take_append_drop];exact B,by rw[List.length_take,List.length_append,List.length_drop];omega,hm⟩
end
theorem Cj(h:Sl w e v n l)
 (T ty:TypeId)(z:Value)(bytes:Nat)(ht:P.underlying T=some (.slice e))(mx:(P.info? e).map (λi=>(i.zero,i.size,i.bytes))=some (some z,1,bytes))(hz:z.cells.size=1)
 (x:Option Addr)(m c:Nat)(news:List Value)(hl:news.length=m)(Ci:∀j u,news[j]?=some u->∃a,x=some a/\w.cell? (a.add j)=some u)(h1:∀u∈news,u.oneCell'=true)
 (El:n+m<=maxLen)(hb:(n+m)*bytes<=140737488355328):
  ∃v' w',dP P T ty w v (.slice x m c)= .ok v' w'/\Sl w' e v' (n+m) (l++news)/\ag (cw v) w w'/\(∀g∈cw v',g∈cw v\/w.heap.size<=g):=by
 obtain⟨i0,hi,kx,ju,kg⟩:=info_parts mx;have tA:=h.1
 by_cases Ck:m=0
 .subst Ck;have nG:news=[]:=List.eq_nil_of_length_eq_zero hl;subst nG;refine⟨v,w,?_,by simpa using h,ag.refl _ _,λx hx=> .inl hx⟩;unfold dP;obtain⟨A,cc,rfl,Gq⟩:=h.val
  cases x with
  |none=>cases A<;>simp[Builtin.append_,run_underlying ht,sizeOf,typeInfo,hi,Builtin.lenOf,Builtin.firstCells,Gq,storeCells]
  |some a=>
   cases A with
   |none=>simp[Builtin.append_,run_underlying ht,sizeOf,typeInfo,hi,Builtin.lenOf,Builtin.firstCells,Gq,storeCells,loadCells,loadCellsFrom]
   |some b=>simp[Builtin.append_,run_underlying ht,sizeOf,typeInfo,hi,Builtin.lenOf,Builtin.firstCells,Gq,storeCells,loadCells,loadCellsFrom]
 .obtain⟨u0,hu0⟩:∃u,news[0]?=some u:=⟨news[0]'(by omega),List.getElem?_eq_getElem (by omega)⟩;obtain⟨a,rfl,_⟩:=Ci 0 u0 hu0;have RZ:∀j u,news[j]?=some u->w.cell? (a.add j)=some u:=λj u hu=>by
   obtain⟨a',e1,h2⟩:=Ci j u hu;injection e1 with e1
   rw[e1];exact h2
  rcases h.2 with⟨A,rfl,rfl⟩|⟨g,cap,rest,rfl,h0,B,hc,hm⟩
  .have nG:l=[]:=List.eq_nil_of_length_eq_zero tA;subst nG
   cases A with
   |none=>
    obtain⟨v',w',e1,h2,h3,h4⟩:=dk (P:=P) (aT.nil w e 1) T ty i0 z bytes ht hi kx ju kg hz (by omega) a m c news (by omega) RZ h1 El hb;exact⟨v',w',e1,Sl.vk h2,h3.mono (by simp[ai]),λg hg=>by
     have hg':g∈ai v':=by
      rcases h2.2 with⟨rfl,_⟩|⟨g',Gr,rest',rfl,_⟩
      .simp[cw]at hg
      .simp[cw]at hg;simp[ai];exact hg.2
     exact(h4 g hg').elim (λh=>by simp[ai]at h) .inr⟩
   |some b=>
    obtain⟨v',w',yP,h2,h3⟩:=run_append_arg_grows (P:=P) w T ty e i0 z 1 bytes ht hi kx ju kg hz (by omega) b 0 0 [] rfl (by simp) a m c news (by omega) RZ (by omega) El hb;refine⟨v',w',yP,Sl.vk (.yN h2),(ag.refl _ _).grown h3 (by simp),?_⟩;intro g hg
    rcases h2.2 with⟨rfl,_⟩|⟨g'',Gr,cur,rfl,hb',_⟩
    .simp[cw]at hg
    .simp[cw]at hg;rw[hg.2];exact .inr hb'
  .have S:aT w e 1 (.slice (some ⟨g,0,none⟩) n cap) n l:=⟨by omega,.inr ⟨g,cap,rest,rfl,B,by omega,hm⟩⟩;obtain⟨v',w',e1,h2,h3,h4⟩:=dk (P:=P) S T ty i0 z bytes ht hi kx ju kg hz (by omega) a m c news (by omega) RZ h1 El hb;have ho:cw (.slice (some ⟨g,0,none⟩) n cap)=[g]:=by simp[cw];omega
   refine⟨v',w',e1,Sl.vk h2,by rw[ho];exact h3.mono (by simp[ai]),λx hx=>?_⟩;rw[ho];have Jo:x∈ai v':=by
    rcases h2.2 with⟨rfl,_⟩|⟨g',Gr,rest',rfl,_⟩
    .simp[cw]at hx
    .simp[cw]at hx;simp[ai];exact hx.2
   exact(h4 x Jo).imp (by simp[ai]) id
theorem JV(h:Sl w e v n l)
 (T ty:TypeId)(z:Value)(bytes:Nat)(ht:P.underlying T=some (.slice e))(mx:(P.info? e).map (λi=>(i.zero,i.size,i.bytes))=some (some z,1,bytes))(hz:z.cells.size=1)
 (x:Value)(hx:x.oneCell'=true)(El:n+1<=maxLen)(hb:(n+1)*bytes<=140737488355328):
  ∃v' w',dP P T ty (w.alloc (.cells #[x] e)) v (.slice (some ⟨w.heap.size,0,none⟩) 1 1)= .ok v' w'/\Sl w' e v' (n+1) (l++[x])/\ag (cw v) w w'/\(∀g∈cw v',g∈cw v\/w.heap.size<=g):=by
 obtain⟨v',w',h1,h2,h3,h4⟩:=Cj (P:=P) (h.alloc (.cells #[x] e)) T ty z bytes ht mx hz (some ⟨w.heap.size,0,none⟩) 1 1 [x] rfl
  (λj u hu=>⟨_,rfl,bq (l:=[x]) (aJ.new w e #[x]) 0 _ (by simp) j u hu⟩) (by intro u hu;simp at hu;subst hu;exact hx) El hb
 exact⟨v',w',h1,h2,((ag.refl _ _).alloc _).aO h3 (λx hx _=>hx),λg hg=>(h4 g hg).imp id (λh=>by simp at h;omega)⟩
end
namespace jy
variable{r c:Nat}
def OQ:Nat:=2197175160
def tab:List Nat:=[0x00000000,0x105ec76f,0x20bd8ede,0x30e349b1,0x417b1dbc,0x5125dad3,0x61c69362,0x7198540d,
 0x82f63b78,0x92a8fc17,0xa24bb5a6,0xb21572c9,0xc38d26c4,0xd3d3e1ab,0xe330a81a,0xf36e6f75]
def nib(r:Nat):Nat:=r / 16 ^^^ tab.getD (r % 16) 0
def cR(r c:Nat):Nat:=nib (nib (r ^^^ c))
def pO(r:Nat)(l:List UInt8):Nat:=l.foldl (λr c=>cR r c.toNat) r
def k8(l:List UInt8):Nat:=4294967295-pO 4294967295 l
def z(r:Nat):Nat:=r / 2 ^^^ if r % 2=1 then OQ else 0
theorem xor_div_two(a b:Nat):(a ^^^ b) / 2=a / 2 ^^^ b / 2:=Nat.xor_div_two
theorem Gt(a b:Nat):(a ^^^ b) % 2=(a+b) % 2:=by
 have h:(a ^^^ b) % 2 ^ 1=(a % 2 ^ 1) ^^^ (b % 2 ^ 1):=Nat.xor_mod_two_pow;simp only[Nat.pow_one]at h;rw[h]
 rcases yp a with ha|ha<;>rcases yp b with hb|hb<;>rw[ha,hb]<;>simp<;>omega
theorem z_xor(a b:Nat):z (a ^^^ b)=z a ^^^ z b:=by
 unfold z;rw[xor_div_two,Gt]
 rcases yp a with ha|ha<;>rcases yp b with hb|hb
 .rw[if_neg (by omega),if_neg (by omega),if_neg (by omega)];simp
 .rw[if_pos (by omega),if_neg (by omega),if_pos (by omega)];simp[Nat.xor_assoc]
 .rw[if_pos (by omega),if_pos (by omega),if_neg (by omega),Nat.xor_zero];ac_rfl
 .rw[if_neg (by omega),if_pos (by omega),if_pos (by omega)];simp only[Nat.xor_zero];have:a / 2 ^^^ OQ ^^^ (b / 2 ^^^ OQ)=a / 2 ^^^ b / 2 ^^^ (OQ ^^^ OQ):=by ac_rfl
  rw[this];simp
theorem R4(q:Nat):z (2*q)=q:=by
 unfold z;rw[if_neg (by omega)];simp
theorem split16(r:Nat):r=(2*(2*(2*(2*(r / 16))))) ^^^ (r % 16):=by
 have h:(2*(2*(2*(2*(r / 16)))))=2 ^ 4*(r / 16):=by omega
 rw[h];have:r % 16<2 ^ 4:=by omega
 rw[Nat.xor_comm];have e:r % 16 ^^^ 2 ^ 4*(r / 16)=2 ^ 4*(r / 16)+r % 16:=by
  apply Nat.eq_of_testBit_eq;intro i;rw[Nat.testBit_xor,Nat.testBit_two_pow_mul,Nat.testBit_two_pow_mul_add _ this]
  by_cases h4:i<4
  .simp[h4,Nat.not_le.2 h4]
  .have:(r % 16).testBit i=false:=Nat.testBit_lt_two_pow (tQ this (Ek (by decide) (by omega)));simp[h4,this,yq.1 h4]
 rw[e];omega
theorem R5:∀n,n<16->z (z (z (z n)))=tab.getD n 0:=by decide
theorem z4_nib(r:Nat):z (z (z (z r)))=nib r:=by
 conv=>lhs;rw[split16 r]
 simp only[z_xor,R4];rw[R5 _ (qQ _ (by decide))];rfl
theorem poly_lt:OQ<2 ^ 32:=by decide
theorem z_lt(h:r<4294967296):z r<4294967296:=by
 unfold z;have h1:r / 2<2 ^ 32:=by omega
 split
 .exact Nat.xor_lt_two_pow h1 poly_lt
 .simpa using h1
theorem JW(h:r<4294967296):nib r<4294967296:=by
 rw[<-z4_nib];exact z_lt (z_lt (z_lt (z_lt h)))
theorem wY(h:r<4294967296)(hc:c<256):r ^^^ c<4294967296:=
 Nat.xor_lt_two_pow (n:=32) h (by omega)
theorem Gu(h:r<4294967296)(hc:c<256):cR r c<4294967296:=JW (JW (wY h hc))
theorem R6(l:List UInt8):∀{r:Nat},r<4294967296->pO r l<4294967296:=by
 induction l with
 |nil=>intro r h;exact h
 |cons c l ih=>intro r h;exact ih (Gu h (by have:=c.toNat_lt;omega))
theorem Em(l:List UInt8):k8 l<4294967296:=by unfold k8;omega
theorem OR(r:Nat):pO r []=r:=rfl
theorem JX(r:Nat)(l:List UInt8)(c:UInt8):pO r (l++[c])=cR (pO r l) c.toNat:=by simp[pO]
def jl(n:Nat):List UInt8:=[UInt8.ofNat (n % 256),UInt8.ofNat (n / 256 % 256),UInt8.ofNat (n / 65536 % 256),UInt8.ofNat (n / 16777216 % 256)]
def bH(l:List UInt8):List UInt8:=jl (k8 l)++l
open Go.RowKit
def vq:Obj:= .cells #[Value.int IntKind.u32 0,Value.int IntKind.u32 274646895,Value.int IntKind.u32 549293790,
     Value.int IntKind.u32 820201905,Value.int IntKind.u32 1098587580,Value.int IntKind.u32 1361435347,
     Value.int IntKind.u32 1640403810,Value.int IntKind.u32 1905808397,Value.int IntKind.u32 2197175160,
     Value.int IntKind.u32 2460548119,Value.int IntKind.u32 2722870694,Value.int IntKind.u32 2987750089,
     Value.int IntKind.u32 3280807620,Value.int IntKind.u32 3553878443,Value.int IntKind.u32 3811616794,
     Value.int IntKind.u32 4084100981] 304 (0,0)
theorem OT:∀n,n<16->(#[Value.int IntKind.u32 0,Value.int IntKind.u32 274646895,Value.int IntKind.u32 549293790,
     Value.int IntKind.u32 820201905,Value.int IntKind.u32 1098587580,Value.int IntKind.u32 1361435347,
     Value.int IntKind.u32 1640403810,Value.int IntKind.u32 1905808397,Value.int IntKind.u32 2197175160,
     Value.int IntKind.u32 2460548119,Value.int IntKind.u32 2722870694,Value.int IntKind.u32 2987750089,
     Value.int IntKind.u32 3280807620,Value.int IntKind.u32 3553878443,Value.int IntKind.u32 3811616794,
     Value.int IntKind.u32 4084100981]:Array Value)[n]?=some (.int .u32 (tab.getD n 0:Nat)):=by
 intro n hn;have h:n=0\/n=1\/n=2\/n=3\/n=4\/n=5\/n=6\/n=7\/n=8\/n=9\/n=10\/n=11\/n=12\/n=13\/n=14\/n=15:=by omega
 rcases h with rfl|rfl|rfl|rfl|rfl|rfl|rfl|rfl|rfl|rfl|rfl|rfl|rfl|rfl|rfl|rfl<;>rfl
theorem R8(w:World)(n:Nat)(hn:n<16):(w.alloc vq).cell? ⟨w.heap.size,n,none⟩=some (.int .u32 (tab.getD n 0:Nat)):=by
 have h:(w.alloc vq).heap[w.heap.size]?=some vq:=heap_alloc_new w _;exact(cell_of_row _ _ _ _ _ _ h).trans (OT n hn)
def su(r c:Nat)(k:Nat):Nat:=if k=0 then r ^^^ c else if k=1 then nib (r ^^^ c)else cR r c
theorem OU{r c:Nat}(hr:r<4294967296)(hc:c<256)(k:Nat):su r c k<4294967296:=by
 unfold su;have:=wY hr hc
 split
 .exact this
 .split
  .exact JW this
  .exact Gu hr hc
theorem Gv(r c k:Nat)(hk:k<2):su r c (k+1)=nib (su r c k):=by
 unfold su;have h:k=0\/k=1:=by omega
 rcases h with rfl|rfl<;>simp[cR]
theorem and15(r:Nat)(h:r<4294967296):bits .and .u32 (r:Int) 15=((r % 16:Nat):Int):=by
 have:=u32_and_nat r 15 h (by omega);rw[show((15:Nat):Int)=15 from rfl]at this;rw[this]
 congr 1
 exact Nat.and_two_pow_sub_one_eq_mod r 4
theorem tX(r c:Nat)(w:World)(hr:r<4294967296)(hc:c<256):
  Calls prog 243 #[.int .u32 r,.int .u8 c] w λe w'=>e=.returned (.int .u32 (cR r c))/\Below w.heap.size w w':=by
 have hx:=u32_xor_nat r c hr (by omega);go_enter func243,ntmps243
 go_wp2
 clear hx;have HB:Below w.heap.size w (w.alloc vq):=(Below.refl _ _).alloc (ak _) _;have hc':=R8 w
 change Code.wp _ _ _ _ (w.alloc vq)
 generalize w.alloc vq=wr at HB hc' ⊢
 go_loop [0,11] (λreg i=> ∃k:Nat,k<=2/\i=.int .i64 k/\reg=.int .u32 (su r c k:Nat)) (λ_ i=>2-(intOf i).toNat)
 case atStart=>exact⟨0,by omega,rfl,rfl⟩
 case round=>
  obtain⟨k,hk,rfl,rfl⟩:=hrel;have dH:=OU hr hc k
  by_cases h:k<2
  .have HS:=xh (Gv r c k h);generalize su r c k=R at *;have e1:=and15 R dH;have e2:=hc' (R % 16) (by omega);have e3:bits .xor .u32 ((R / 16:Nat):Int) ((tab.getD (R % 16) 0:Nat):Int)=((nib R:Nat):Int):=by
    have:tab.getD (R % 16) 0<4294967296:=by
     have:∀n,n<16->tab.getD n 0<4294967296:=by decide
     exact this _ (by omega)
    rw[u32_xor_nat _ _ (by omega) this];rfl
   clear hc'
   go_wp2
   go_round
   case rel=>exact⟨k+1,by omega,by go_num,by rw[HS.o,<-e3];simp⟩
   case measure=>simp[intOf];omega
  .go_wp2
   go_ret;have:k=2:=by omega
   subst this;exact⟨rfl,HB⟩
theorem Nj(r:Nat)(hr:r<4294967296):bits BinOp.xor IntKind.u32 IntKind.u32.max (r:Int)=((4294967295-r:Nat):Int):=by
 have h:IntKind.u32.max=((4294967295:Nat):Int):=by rfl
 rw[h,u32_xor_nat _ _ (by omega) hr]
 congr 1
 have h2:=Nat.xor_comm 4294967295 r;rw[h2];have:r ^^^ (2 ^ 32-1)=2 ^ 32-1-r:=by
  apply Nat.eq_of_testBit_eq;intro i;rw[Nat.testBit_xor,Nat.testBit_two_pow_sub_one];have h3:=Nat.testBit_two_pow_sub_succ (x:=r) (n:=32) (by omega) i;rw[show 2 ^ 32-1-r=2 ^ 32-(r+1)from by omega,h3]
  by_cases hi:i<32
  .simp[hi]
  .simp[hi];exact Nat.testBit_lt_two_pow (tQ (show r<2 ^ 32 by omega) (Ek (by decide) (by omega)))
 exact this
theorem OV(s:ByteArray)(k:Nat)(h:k<s.size):s.data.toList.take (k+1)=s.data.toList.take k++[s[k]]:=by
 rw[gC (by simpa using h)];rfl
theorem Sc(r:Nat)(s:ByteArray)(w:World)(hr:r<4294967296)(hs:s.size<=maxLen):
  Calls prog 226 #[.int .u32 r,.string s] w λe w'=>e=.returned (.int .u32 ((4294967295-pO (4294967295-r) s.data.toList:Nat):Int))/\Below w.heap.size w w':=by
 have hx:=Nj r hr;have Ge:pO (4294967295-r) []<4294967296:=by show 4294967295-r<_;omega
 unfold maxLen at hs;go_enter func226,ntmps226
 go_wp2
 clear hx
 go_loopw [5,6,11] (λreg _ i wr=> ∃k:Nat,k<=s.size/\i=.int .i64 k/\reg=.int .u32 ((pO (4294967295-r) (s.data.toList.take k):Nat):Int)/\Below w.heap.size w wr) (λ_ _ i _=>s.size-(intOf i).toNat)
 case atStart=>exact⟨0,aY _,rfl,rfl,Below.refl _ _⟩
 case round=>
  obtain⟨k,hk,rfl,rfl,hb⟩:=hrel;have dH:=R6 (s.data.toList.take k) Ge;simp only[OR]at dH
  by_cases h:k<s.size
  .have HS:=xh (show pO (4294967295-r) (s.data.toList.take (k+1))=cR (pO (4294967295-r) (s.data.toList.take k)) s[k].toNat from by rw[OV s k h,JX]);go_wp2_with (go_at_call 243;refine(tX _ _ _ dH (by have:=s[k].toNat_lt;omega)).mono ?_;rintro e w1 ⟨rfl,bf⟩);go_roundw
   case rel=>exact⟨k+1,by omega,by go_num,by rw[HS.o],hb.trans (bf.mono hb.size)⟩
   case measure=>simp[intOf];omega
  .have Rw:=Nj _ dH;have ht:s.data.toList.take k=s.data.toList:=cy (by simp;omega);rw[ht]at Rw;rw[ht]
   go_wp2
   go_ret;exact⟨rfl,hb⟩
theorem yR(n:Nat)(w:World)(hn:n<4294967296):
  Calls prog 202 #[.int .u32 n] w λe w'=>e=.returned (.agg #[.int .u8 (n % 256:Nat),.int .u8 (n / 256 % 256:Nat),.int .u8 (n / 65536 % 256:Nat),.int .u8 (n / 16777216 % 256:Nat)])/\Below w.heap.size w w':=by
 go_enter func202,ntmps202
 go_wp2
 refine wp_loop_rounds 5 ?_;rw[rounds_succ]
 go_wp2
 rw[rounds_succ]
 go_wp2
 rw[rounds_succ]
 go_wp2
 rw[rounds_succ]
 go_wp2
 rw[rounds_succ]
 go_wp2
 refine bodyPost_ret (v:= .agg #[.int .u8 (n % 256:Nat),.int .u8 (n / 256 % 256:Nat),.int .u8 (n / 65536 % 256:Nat),.int .u8 (n / 16777216 % 256:Nat)]) ?_ rfl ⟨rfl,?_⟩
 .simp[results,Tryz.results202,go_sem];omega
 .exact((Below.refl _ _).alloc (ak _) _).alloc (by simp) _
theorem En(s:ByteArray)(w:World)(hs:s.size<=maxLen):
  Calls prog 203 #[.string s] w λe w'=>e=.returned (.int .u32 (k8 s.data.toList:Nat))/\Below w.heap.size w w':=by
 go_enter func203,ntmps203;go_wp2_with (go_at_call 226;refine(Sc 0 _ _ (by omega) hs).mono ?_;rintro e w1 ⟨rfl,bf⟩);go_ret;exact⟨rfl,bf⟩
theorem eA:(prog.info? 5).map (λi=>(i.zero,i.size,i.bytes))=some (some (.int .u8 0),1,1):=by kernel_rfl
theorem oF:(prog.info? 5).map (·.size)=some 1:=by kernel_rfl
theorem oG(n:Int)(h0:0<=n)(h1:n<=140737488355328)(w:World):
  (Instr.makeSlice 150 (.int .i64 n) (.int .i64 n)).run prog w=.ok (.slice (some ⟨w.heap.size,0,none⟩) n.toNat n.toNat) (w.alloc (.cells (madeCells #[.int .u8 0] n.toNat) 5)):=by
 obtain⟨i0,hi,kx,ju,kg⟩:=info_parts eA;have h:=run_make (P:=prog) w 150 5 i0 (.int .u8 0) underlying150 hi kx .i64 .i64 n n h0 (jI _) (by rw[kg];omega) (by omega);simpa [ju,Value.cells]using h
def jm(n:Nat):List Value:=[.int .u8 ((n:Int) % 256),.int .u8 ((n:Int) / 256 % 256),.int .u8 ((n:Int) / 65536 % 256),.int .u8 ((n:Int) / 16777216 % 256)]
theorem tY(n:Nat):jm n=dI (jl n):=by
 have t:∀n:Nat,(UInt8.ofNat (n % 256)).toNat=n % 256:=λn=>by simp
 simp only[jm,dI,jl,List.map,bv,t];rfl
theorem OY(n:Nat):∀v∈jm n,v.oneCell'=true:=by rw[tY];exact tV _
theorem Cl(l:List UInt8)(n:Nat)(hn:n=l.length)(z:Value):putAt (putAt (List.replicate (4+n) z) 0 (jm (k8 l))) 4 (dI (l.take n))=dI (bH l):=by
 subst hn;have h4:(jm (k8 l)).length=4:=rfl;have e1:putAt (List.replicate (4+l.length) z) 0 (jm (k8 l))=jm (k8 l)++List.replicate l.length z:=by
  simp[putAt,h4]
 rw[e1,bH,cP,<-tY];unfold putAt;rw[lT (by simp[h4]),cy (by simp[h4]),lJ (by simp[h4])];simp
theorem yv(s:ByteArray)(w:World)(hs:s.size<=100000000):
  Calls prog 158 #[.string s] w λe w'=>e=.returned (.string ⟨(bH s.data.toList).toArray⟩)/\Below w.heap.size w w':=by
 have hmk:=λw'=>oG (4+s.size) (by omega) (by omega) w';go_enter func158,ntmps158;go_wp2_with (first|(go_at_call 203;refine(En _ _ (by unfold maxLen;omega)).mono ?_;rintro e w1 ⟨rfl,bf⟩)|(go_at_call 202;refine(yR _ _ (Em _)).mono ?_;rintro e w2 ⟨rfl,cA⟩));clear hmk;rw[ie]at bf;have ju:w.heap.size<w1.heap.size:=by have:=bf.size;simp at this;omega
 have kg:w.heap.size<w2.heap.size:=by have:=cA.size;omega
 have B1:aJ w2 w.heap.size 5 (List.replicate (4+s.size) (.int .u8 0)).toArray:=((aJ.new _ _ _).below bf (by simp)).below cA ju;have B2:=B1.alloc (.cells (jm (k8 s.data.toList)).toArray 257);have B3:=aJ.new w2 257 (jm (k8 s.data.toList)).toArray;have O3:Below w.heap.size w (w2.alloc (.cells (jm (k8 s.data.toList)).toArray 257)):=
  ((((Below.refl _ _).alloc (ak _) _).trans (bf.mono (by simp))).trans (cA.mono (by omega))).alloc (by omega) _
 change Oper.upon _ _ _ _ _ ((Sem.run _ _ (w2.alloc (.cells (jm (k8 s.data.toList)).toArray 257))).andThen _)
 generalize (w2.alloc (.cells (jm (k8 s.data.toList)).toArray 257))=W at B2 B3 O3 ⊢;obtain⟨W4,e4,B4,O4⟩:=yL (P:=prog) B2 150 150 3 5 0 (4+s.size) (4+s.size) ⟨w2.heap.size,0,none⟩ 4 4 (jm (k8 s.data.toList)) underlying150 oF
  (by show 4=min 4 (4+s.size);omega) (bq B3 0 _ (by simp)) (by show 0+4<=_;simp) (OY _)
 rw[e4];clear e4 B1 B2 B3;have O5:=O3.trans (O4.aI O3.size (by simp))
 go_wp2
 .have hs0:s=ByteArray.empty:=by assumption
  obtain⟨W5,e5,B5,O6⟩:=mW (P:=prog) B4 150 9 3 5 0 0 0 ByteArray.empty 0 underlying150 oF (by rfl) (by simp);have eb:putAt (putAt (List.replicate (4+s.size) (.int .u8 0)) 0 (jm (k8 s.data.toList))) 0 (dI (ByteArray.empty.data.toList.take 0))=dI (bH s.data.toList):=by
   subst hs0;have:=Cl ByteArray.empty.data.toList 0 rfl (.int .u8 0);rw[<-this,jb];exact(vj _ _).trans (vj _ _).symm
  rw[eb]at B5;have uV:=cg (P:=prog) W5 150 9 5 underlying150 underlying5 underlying9 ⟨w.heap.size,0,none⟩ 4 4 (bH s.data.toList) (by subst hs0;rfl) (bq B5 0 _ (by simp));rw[e5];have O7:=O5.trans (O6.aI O5.size (by simp));clear e5 B4 B5 eb
  go_wp2
  go_ret;exact⟨by subst hs0;rfl,O7⟩
 .obtain⟨W5,e5,B5,O6⟩:=mW (P:=prog) B4 150 9 3 5 4 s.size s.size s s.size underlying150 oF (by simp) (by rw[ke (by show 0+4<=_;simp)];simp);rw[Cl _ _ (by simp)]at B5;have uV:=cg (P:=prog) W5 150 9 5 underlying150 underlying5 underlying9 ⟨w.heap.size,0,none⟩ (4+s.size) (4+s.size) (bH s.data.toList) (by simp[bH,jl];omega) (bq B5 0 _ (by simp));rw[e5];have O7:=O5.trans (O6.aI O5.size (by simp))
  clear e5 B4 B5
  go_wp2
  go_ret;exact⟨rfl,O7⟩
theorem tZ(s:ByteArray):(s.extract 0 4).data.toList=s.data.toList.take 4:=by
 rw[Jy,RM,JH];simp
theorem cut_ok(s:ByteArray)(w:World)(h4:4<=s.size)(hs:s.size<=maxLen)(hc:jl (k8 (s.data.toList.drop 4))=s.data.toList.take 4):
  Calls prog 180 #[.string s] w λe w'=>e=.returned (.tuple #[.string (s.extract 4 s.size),.int .i64 0])/\Below w.heap.size w w':=by
 unfold maxLen at hs;have hN:k8 (List.take (s.size-4) (List.drop 4 s.data.toList))<4294967296:=Em _;obtain⟨N,eN⟩:∃N,k8 (List.take (s.size-4) (List.drop 4 s.data.toList))=N:=⟨_,rfl⟩;have HC:=xh (show jl N=s.data.toList.take 4 from by
  rw[<-hc,<-eN,cy (by simp)])
 clear hc;rw[eN]at hN;go_enter func180,ntmps180;go_wp2_with (first|(go_at_call 203;refine(En _ _ (by simp;unfold maxLen;omega)).mono ?_;rintro e w1 ⟨rfl,bf⟩)|(go_at_call 202;refine(yR _ _ hN).mono ?_;rintro e w2 ⟨rfl,cA⟩));clear eN;have B3:aJ (w2.alloc (.cells (jm N).toArray 257)) w2.heap.size 257 (dI (s.data.toList.take 4)).toArray:=by
  rw[tY,HC.o];exact aJ.new _ _ _
 have O3:Below w.heap.size w (w2.alloc (.cells (jm N).toArray 257)):=
  (bf.trans (cA.mono bf.size)).alloc (ar bf.size cA.size) _
 change Code.wp _ _ _ _ (w2.alloc (.cells (jm N).toArray 257))
 generalize (w2.alloc (.cells (jm N).toArray 257))=W at B3 O3 ⊢;have uV:=λn=>cg (P:=prog) (W.drewN n) 150 9 5 underlying150 underlying5 underlying9 ⟨w2.heap.size,0,none⟩ 4 4 (s.data.toList.take 4) (by simp;omega) (bq (B3.drewN n) 0 (dI (s.data.toList.take 4)) (by simp));go_quiet (fail);have hq:(!List.take 4 s.data.toList==(s.extract 0 4).toList)=false:=by rw[cf,tZ];simp
 rw[hq]
 go_wp2
 go_ret2;exact⟨rfl,dS O3 _⟩
theorem Gw(s:ByteArray)(w:World)(h4:4<=s.size)(hs:s.size<=maxLen)(hc:jl (k8 (s.data.toList.drop 4))≠s.data.toList.take 4):
  Calls prog 180 #[.string s] w λe w'=>e=.returned (.tuple #[.string ⟨#[]⟩,.int .i64 14])/\Below w.heap.size w w':=by
 unfold maxLen at hs;have hN:k8 (List.take (s.size-4) (List.drop 4 s.data.toList))<4294967296:=Em _;obtain⟨N,eN⟩:∃N,k8 (List.take (s.size-4) (List.drop 4 s.data.toList))=N:=⟨_,rfl⟩;have HC:=xh (show jl N≠s.data.toList.take 4 from by
  intro e;apply hc;rw[<-e,<-eN,cy (by simp)])
 clear hc;rw[eN]at hN;go_enter func180,ntmps180;go_wp2_with (first|(go_at_call 203;refine(En _ _ (by simp;unfold maxLen;omega)).mono ?_;rintro e w1 ⟨rfl,bf⟩)|(go_at_call 202;refine(yR _ _ hN).mono ?_;rintro e w2 ⟨rfl,cA⟩));clear eN;have B3:aJ (w2.alloc (.cells (jm N).toArray 257)) w2.heap.size 257 (dI (jl N)).toArray:=by
  rw[tY];exact aJ.new _ _ _
 have O3:Below w.heap.size w (w2.alloc (.cells (jm N).toArray 257)):=
  (bf.trans (cA.mono bf.size)).alloc (ar bf.size cA.size) _
 change Code.wp _ _ _ _ (w2.alloc (.cells (jm N).toArray 257))
 generalize (w2.alloc (.cells (jm N).toArray 257))=W at B3 O3 ⊢;have uV:=λn=>cg (P:=prog) (W.drewN n) 150 9 5 underlying150 underlying5 underlying9 ⟨w2.heap.size,0,none⟩ 4 4 (jl N) rfl (bq (B3.drewN n) 0 (dI (jl N)) (by simp));go_quiet (fail);have hq:(!jl N==(s.extract 0 4).toList)=true:=by rw[cf,tZ];simpa using HC.o
 rw[hq]
 go_wp2
 go_ret2;exact⟨rfl,dS O3 _⟩
end jy
namespace Pk
open Go.RowKit
attribute [local go_sem ↓] bz
def JY(N k:Nat):List UInt8:=(List.range k).map λj=>UInt8.ofNat (N / 256 ^ (7-j))
def vr(N:Nat):List UInt8:=JY N 8
theorem k9(N k:Nat):JY N (k+1)=JY N k++[UInt8.ofNat (N / 256 ^ (7-k))]:=by
 unfold JY;rw[Eg,dA];rfl
theorem oH(N k:Nat):(JY N k).length=k:=by simp[JY]
theorem Sd(n:Nat):Value.int .u8 ((n:Int) % 256)=bv (UInt8.ofNat n):=by
 unfold bv
 congr 1
theorem sy(N p:Nat):Value.int .u8 ((N:Int) / (p:Int) % 256)=bv (UInt8.ofNat (N / p)):=by
 rw[<-Int.natCast_ediv];exact Sd _
theorem jf(N:Nat)(hN:N<18446744073709551616)(w:World):
  Calls prog 141 #[.slice none 0 0,.int .u64 (N:Int),.int .i64 8] w λe w'=>(∃v,e=.returned v/\aT w' 5 1 v 8 (dI (vr N)))/\Below w.heap.size w w':=by
 go_enter func141,ntmps141;go_wp2_with fail
 go_loopw [0,7] (λsv iv wr=> ∃(k:Nat),k<=8/\iv=.int .i64 (7-(k:Int))/\aT wr 5 1 sv k (dI (JY N k))/\Below w.heap.size w wr/\Hid (∀x∈ai sv,w.heap.size<=x)) (λ_ iv _=>(intOf iv+1).toNat)
 case atStart=>exact⟨0,by omega,rfl,aT.nil _ _ _,Below.refl _ _,xh (by simp[ai])⟩
 case round=>
  obtain⟨k,hk,rfl,S,O,F⟩:=hrel;obtain⟨VA,vc,rfl⟩:=au S;have hkk:k=0\/k=1\/k=2\/k=3\/k=4\/k=5\/k=6\/k=7\/k=8:=by omega
  rcases hkk with rfl|rfl|rfl|rfl|rfl|rfl|rfl|rfl|rfl
  .have hx:Value.int .u8 ((N:Int) / 72057594037927936)=bv (UInt8.ofNat (N / 72057594037927936)):=by rw[<-sy N 72057594037927936];congr 1;omega
   obtain⟨v',w2,ea,S2,ow,fr⟩:=cQ (P:=prog) S 150 150 (.int .u8 0) 1 underlying150 jy.eA rfl (.int .u8 ((N:Int) / 72057594037927936)) rfl (by unfold maxLen;omega) (by omega);obtain⟨V2,ix,rfl⟩:=au S2;have EA:=xh ea;have SX:=xh (show aT w2 5 1 (.slice V2 (0+1) ix) (0+1) (dI (JY N (0+1)))from by
    rw[hx]at S2;rw[k9,cP];exact S2)
   have OX:=xh (O.trans (ow.aI O.size F.o));have FX:=xh (show ∀x∈ai (.slice V2 (0+1) ix),w.heap.size<=x from λx hx=>(fr x hx).elim (F.o x) (λh=>ar O.size h));clear hx ea S S2 ow fr O;go_wp2_with fail;rw[EA.o];go_wp2_with fail;go_roundw
   case rel=>exact⟨0+1,by omega,by first|rfl|simp,SX.o,OX.o,FX⟩
   case measure=>first|decide|simp[intOf]
  .have hx:Value.int .u8 ((N:Int) / 281474976710656 % 256)=bv (UInt8.ofNat (N / 281474976710656)):=sy N 281474976710656;obtain⟨v',w2,ea,S2,ow,fr⟩:=cQ (P:=prog) S 150 150 (.int .u8 0) 1 underlying150 jy.eA rfl (.int .u8 ((N:Int) / 281474976710656 % 256)) rfl (by unfold maxLen;omega) (by omega);obtain⟨V2,ix,rfl⟩:=au S2;have EA:=xh ea;have SX:=xh (show aT w2 5 1 (.slice V2 (1+1) ix) (1+1) (dI (JY N (1+1)))from by
    rw[hx]at S2;rw[k9,cP];exact S2)
   have OX:=xh (O.trans (ow.aI O.size F.o));have FX:=xh (show ∀x∈ai (.slice V2 (1+1) ix),w.heap.size<=x from λx hx=>(fr x hx).elim (F.o x) (λh=>ar O.size h));clear hx ea S S2 ow fr O;go_wp2_with fail;rw[EA.o];go_wp2_with fail;go_roundw
   case rel=>exact⟨1+1,by omega,by first|rfl|simp,SX.o,OX.o,FX⟩
   case measure=>first|decide|simp[intOf]
  .have hx:Value.int .u8 ((N:Int) / 1099511627776 % 256)=bv (UInt8.ofNat (N / 1099511627776)):=sy N 1099511627776;obtain⟨v',w2,ea,S2,ow,fr⟩:=cQ (P:=prog) S 150 150 (.int .u8 0) 1 underlying150 jy.eA rfl (.int .u8 ((N:Int) / 1099511627776 % 256)) rfl (by unfold maxLen;omega) (by omega);obtain⟨V2,ix,rfl⟩:=au S2;have EA:=xh ea;have SX:=xh (show aT w2 5 1 (.slice V2 (2+1) ix) (2+1) (dI (JY N (2+1)))from by
    rw[hx]at S2;rw[k9,cP];exact S2)
   have OX:=xh (O.trans (ow.aI O.size F.o));have FX:=xh (show ∀x∈ai (.slice V2 (2+1) ix),w.heap.size<=x from λx hx=>(fr x hx).elim (F.o x) (λh=>ar O.size h));clear hx ea S S2 ow fr O;go_wp2_with fail;rw[EA.o];go_wp2_with fail;go_roundw
   case rel=>exact⟨2+1,by omega,by first|rfl|simp,SX.o,OX.o,FX⟩
   case measure=>first|decide|simp[intOf]
  .have hx:Value.int .u8 ((N:Int) / 4294967296 % 256)=bv (UInt8.ofNat (N / 4294967296)):=sy N 4294967296;obtain⟨v',w2,ea,S2,ow,fr⟩:=cQ (P:=prog) S 150 150 (.int .u8 0) 1 underlying150 jy.eA rfl (.int .u8 ((N:Int) / 4294967296 % 256)) rfl (by unfold maxLen;omega) (by omega);obtain⟨V2,ix,rfl⟩:=au S2;have EA:=xh ea;have SX:=xh (show aT w2 5 1 (.slice V2 (3+1) ix) (3+1) (dI (JY N (3+1)))from by
    rw[hx]at S2;rw[k9,cP];exact S2)
   have OX:=xh (O.trans (ow.aI O.size F.o));have FX:=xh (show ∀x∈ai (.slice V2 (3+1) ix),w.heap.size<=x from λx hx=>(fr x hx).elim (F.o x) (λh=>ar O.size h));clear hx ea S S2 ow fr O;go_wp2_with fail;rw[EA.o];go_wp2_with fail;go_roundw
   case rel=>exact⟨3+1,by omega,by first|rfl|simp,SX.o,OX.o,FX⟩
   case measure=>first|decide|simp[intOf]
  .have hx:Value.int .u8 ((N:Int) / 16777216 % 256)=bv (UInt8.ofNat (N / 16777216)):=sy N 16777216;obtain⟨v',w2,ea,S2,ow,fr⟩:=cQ (P:=prog) S 150 150 (.int .u8 0) 1 underlying150 jy.eA rfl (.int .u8 ((N:Int) / 16777216 % 256)) rfl (by unfold maxLen;omega) (by omega);obtain⟨V2,ix,rfl⟩:=au S2;have EA:=xh ea;have SX:=xh (show aT w2 5 1 (.slice V2 (4+1) ix) (4+1) (dI (JY N (4+1)))from by
    rw[hx]at S2;rw[k9,cP];exact S2)
   have OX:=xh (O.trans (ow.aI O.size F.o));have FX:=xh (show ∀x∈ai (.slice V2 (4+1) ix),w.heap.size<=x from λx hx=>(fr x hx).elim (F.o x) (λh=>ar O.size h));clear hx ea S S2 ow fr O;go_wp2_with fail;rw[EA.o];go_wp2_with fail;go_roundw
   case rel=>exact⟨4+1,by omega,by first|rfl|simp,SX.o,OX.o,FX⟩
   case measure=>first|decide|simp[intOf]
  .have hx:Value.int .u8 ((N:Int) / 65536 % 256)=bv (UInt8.ofNat (N / 65536)):=sy N 65536;obtain⟨v',w2,ea,S2,ow,fr⟩:=cQ (P:=prog) S 150 150 (.int .u8 0) 1 underlying150 jy.eA rfl (.int .u8 ((N:Int) / 65536 % 256)) rfl (by unfold maxLen;omega) (by omega);obtain⟨V2,ix,rfl⟩:=au S2;have EA:=xh ea;have SX:=xh (show aT w2 5 1 (.slice V2 (5+1) ix) (5+1) (dI (JY N (5+1)))from by
    rw[hx]at S2;rw[k9,cP];exact S2)
   have OX:=xh (O.trans (ow.aI O.size F.o));have FX:=xh (show ∀x∈ai (.slice V2 (5+1) ix),w.heap.size<=x from λx hx=>(fr x hx).elim (F.o x) (λh=>ar O.size h));clear hx ea S S2 ow fr O;go_wp2_with fail;rw[EA.o];go_wp2_with fail;go_roundw
   case rel=>exact⟨5+1,by omega,by first|rfl|simp,SX.o,OX.o,FX⟩
   case measure=>first|decide|simp[intOf]
  .have hx:Value.int .u8 ((N:Int) / 256 % 256)=bv (UInt8.ofNat (N / 256)):=sy N 256;obtain⟨v',w2,ea,S2,ow,fr⟩:=cQ (P:=prog) S 150 150 (.int .u8 0) 1 underlying150 jy.eA rfl (.int .u8 ((N:Int) / 256 % 256)) rfl (by unfold maxLen;omega) (by omega);obtain⟨V2,ix,rfl⟩:=au S2;have EA:=xh ea;have SX:=xh (show aT w2 5 1 (.slice V2 (6+1) ix) (6+1) (dI (JY N (6+1)))from by
    rw[hx]at S2;rw[k9,cP];exact S2)
   have OX:=xh (O.trans (ow.aI O.size F.o));have FX:=xh (show ∀x∈ai (.slice V2 (6+1) ix),w.heap.size<=x from λx hx=>(fr x hx).elim (F.o x) (λh=>ar O.size h));clear hx ea S S2 ow fr O;go_wp2_with fail;rw[EA.o];go_wp2_with fail;go_roundw
   case rel=>exact⟨6+1,by omega,by first|rfl|simp,SX.o,OX.o,FX⟩
   case measure=>first|decide|simp[intOf]
  .have hx:Value.int .u8 ((N:Int) % 256)=bv (UInt8.ofNat N):=Sd N;obtain⟨v',w2,ea,S2,ow,fr⟩:=cQ (P:=prog) S 150 150 (.int .u8 0) 1 underlying150 jy.eA rfl (.int .u8 ((N:Int) % 256)) rfl (by unfold maxLen;omega) (by omega);obtain⟨V2,ix,rfl⟩:=au S2;have EA:=xh ea;have SX:=xh (show aT w2 5 1 (.slice V2 (7+1) ix) (7+1) (dI (JY N (7+1)))from by
    rw[hx]at S2;rw[k9,cP];exact(by rw[fy,Nat.pow_zero,Nat.div_one];exact S2))
   have OX:=xh (O.trans (ow.aI O.size F.o));have FX:=xh (show ∀x∈ai (.slice V2 (7+1) ix),w.heap.size<=x from λx hx=>(fr x hx).elim (F.o x) (λh=>ar O.size h));clear hx ea S S2 ow fr O;go_wp2_with fail;rw[EA.o];go_wp2_with fail;go_roundw
   case rel=>exact⟨7+1,by omega,by first|rfl|simp,SX.o,OX.o,FX⟩
   case measure=>first|decide|simp[intOf]
  .have SX:=xh S;have OX:=xh O;clear S O;go_wp2_with fail;go_ret;exact⟨⟨_,rfl,SX.o⟩,OX.o⟩
def fE(n:Int):List UInt8:=vr ((n+9223372036854775808) % 18446744073709551616).toNat
theorem I_any(n:Int)(h0:0<=n)(h1:n<=1099511627776)(w:World):
  Calls prog 88 #[.int .i64 n] w λe w'=>e=.returned (.string ⟨(fE n).toArray⟩)/\Below w.heap.size w w':=by
 obtain⟨m,rfl⟩:=eT h0;have hN:(((m:Int)+9223372036854775808) % 18446744073709551616).toNat=m+9223372036854775808:=by omega
 have hNI:((m+9223372036854775808:Nat):Int)=(m:Int)+9223372036854775808:=by omega
 have K:=xh (jf (m+9223372036854775808) (by omega) w);rw[hNI]at K;unfold fE;rw[hN];have e1:IntKind.u64.wrap (m:Int)=(m:Int):=IntWalk.u64_in _ (by omega);have e2:IntKind.u64.wrap ((m:Int)+9223372036854775808)=(m:Int)+9223372036854775808:=IntWalk.u64_in _ (by omega);clear hN hNI;go_enter func88,ntmps88;go_wp2_with fail;refine K.o.mono ?_;rintro e w1 ⟨⟨v,rfl,S⟩,hb⟩;obtain⟨g,cap,rest,rfl,B,hc,_⟩:=S.form (by omega) (by omega)
 have ST:=xh (cg (P:=prog) w1 150 9 5 underlying150 underlying5 underlying9 ⟨g,0,none⟩ 8 cap (vr (m+9223372036854775808)) rfl (bq B 0 _ (by intro j u hu;rw[bg];exact bF (aS.1 hu).1▸hu)));have HB:=xh hb;clear hb S B;go_wp2_with fail;rw[ST.o];go_wp2_with fail;go_ret;exact⟨rfl,HB.o⟩
end Pk
namespace Pk
open Go.RowKit
def pG(l:List UInt8):Nat:=l.foldl (λn b=>n*256+b.toNat) 0
theorem Se(l:List UInt8)(b:UInt8):pG (l++[b])=pG l*256+b.toNat:=by simp[pG]
theorem beN_lt'(l:List UInt8):∀n:Nat,l.foldl (λn b=>n*256+b.toNat) n<(n+1)*256 ^ l.length:=by
 induction l with
 |nil=>intro n;simp
 |cons b l ih=>
  intro n;have h1:=ih (n*256+b.toNat);have h2:=b.toNat_lt;rw[yH,fI,Nat.pow_succ];refine tQ h1 ?_;rw[show(n+1)*(256 ^ l.length*256)=((n+1)*256)*256 ^ l.length by rw[Ej,tR (256 ^ l.length) 256]];exact Nat.mul_le_mul_right _ (by omega)
theorem Eo(l:List UInt8):pG l<256 ^ l.length:=by
 have:=beN_lt' l 0;rw[bg,Nat.one_mul]at this;exact this
theorem or_join(n b:Nat)(hn:n<72057594037927936)(hb:b<256):bits .or .u64 ((n:Int)*256) (b:Int)=((n*256+b:Nat):Int):=by
 have h:=bits_or_u64_nat (n*256) b (by omega) (by omega);rw[show((n*256:Nat):Int)=(n:Int)*256 by omega]at h;rw[h];have:=Nat.two_pow_add_eq_or_of_lt (i:=8) hb n;rw[show 2 ^ 8*n=n*256 by omega]at this;rw[<-this]
theorem get_any(s:ByteArray)(hs:s.size=8)(w:World):
  Calls prog 187 #[.string s] w λe w'=>e=.returned (.int .u64 (pG s.data.toList:Nat))/\Below w.heap.size w w':=by
 have HL:=xh (show s.data.toList.length=8 from by simpa using hs);go_enter func187,ntmps187;go_wp2_with fail
 go_loopw [3,7] (λnv iv wr=> ∃(i:Nat),i<=8/\nv=.int .u64 (pG (s.data.toList.take i):Nat)/\iv=.int .i64 i/\Below w.heap.size w wr) (λ_ iv _=>8-(intOf iv).toNat)
 case atStart=>exact⟨0,by omega,by simp[pG],rfl,Below.refl _ _⟩
 case round=>
  obtain⟨i,hi,rfl,rfl,O⟩:=hrel
  by_cases h:i<8
  .have hsi:i<s.size:=by omega
   have hlen:=HL.o;have hT:s.data.toList.take (i+1)=s.data.toList.take i++[s[i]]:=by
    rw[gC (by omega)];rfl
   have dH:=Eo (s.data.toList.take i);rw[bm]at dH;have hlt2:pG (s.data.toList.take i)<72057594037927936:=tQ dH (ar (Ek (by omega) (show min i s.data.toList.length<=7 by omega)) (by decide));have hN:pG (s.data.toList.take (i+1))=pG (s.data.toList.take i)*256+s[i].toNat:=by rw[hT,Se]
   obtain⟨n,hn⟩:∃n,pG (s.data.toList.take i)=n:=⟨_,rfl⟩;rw[hn]at hlt2 hN ⊢;have hb:=s[i].toNat_lt;have HV:=xh (or_join n s[i].toNat hlt2 hb);have HN:=xh hN;have hiI:(i:Int)<8:=by omega
   have hiS:(i:Int)<(s.size:Int):=by omega
   have v1:IntKind.u64.wrap (s[i].toNat:Int)=(s[i].toNat:Int):=IntWalk.u64_in _ (by omega);have v2:IntKind.u64.wrap ((n:Int)*256)=(n:Int)*256:=IntWalk.u64_in _ (by omega);have OX:=xh O;clear hT dH hN hn O;go_wp2_with fail;rw[HV.o];exact⟨⟨i+1,by omega,by rw[HN.o],by go_num,OX.o⟩,by simp[intOf];omega⟩
  .obtain rfl:i=8:=by omega
   have hlen:=HL.o;have OX:=xh O;rw[cy (by omega)];clear O;go_wp2_with fail;go_ret;exact⟨rfl,OX.o⟩
theorem Sf(s:ByteArray)(at_ n:Int)(w:World)(h0:0<=at_)(h1:at_+n<=s.size)(hn:0<=n)(hs:s.size<=1000000):
  Calls prog 186 #[.string s,.int .i64 at_,.int .i64 n] w λe w'=>e=.returned (.int .i64 0)/\Below w.heap.size w w':=by
 have a1:¬at_<0:=by omega
 have a2:¬(s.size:Int)<at_:=by omega
 have a3:IntKind.i64.wrap ((s.size:Int)-at_)=(s.size:Int)-at_:=IntWalk.i64_in _ (by omega);have a4:¬(s.size:Int)-at_<n:=by omega
 go_enter func186,ntmps186;go_wp2_with fail;go_ret;exact⟨rfl,Below.refl _ _⟩
theorem Cm(s:ByteArray)(k:Nat)(w:World)(h1:k+8<=s.size)(hs:s.size<=1000000):
  Calls prog 142 #[.string s,.int .i64 (k:Nat)] w λe w'=>e=.returned (.tuple #[.int .u64 (pG ((s.extract k (k+8)).data.toList):Nat),.int .i64 ((k:Int)+8),.int .i64 0])/\Below w.heap.size w w':=by
 have pF:(s.extract k (k+8)).size=8:=by rw[uZ];omega
 have KL:=xh (Sf s (k:Nat) 8 w (by omega) (by omega) (by omega) hs);have KG:=xh (λw=>get_any (s.extract k (k+8)) pF w);obtain⟨N,hN⟩:∃N,pG ((s.extract k (k+8)).data.toList)=N:=⟨_,rfl⟩;rw[hN]at KG ⊢;clear hN;have e1:IntKind.i64.wrap ((k:Int)+8)=(k:Int)+8:=IntWalk.i64_in _ (by omega);have e2:(0:Int)<=(k:Int)+8:=by omega
 have e3:((k:Int)+8).toNat=k+8:=by omega
 have e4:(k:Int)<=(k:Int)+8:=by omega
 have e5:(k:Int)+8<=(s.size:Int):=by omega
 go_enter func142,ntmps142;go_wp2_with fail;refine KL.o.mono ?_;rintro e w1 ⟨rfl,bf⟩;have O1:=xh bf;clear bf;go_wp2_with fail;refine(KG.o _).mono ?_;rintro e w2 ⟨rfl,cA⟩;have O2:=xh (aB O1.o cA);clear cA;go_wp2_with fail
 go_ret3
 exact⟨rfl,O2.o⟩
theorem Cn(s:ByteArray)(k:Nat)(w:World)(h1:k+8<=s.size)(hs:s.size<=1000000):
  Calls prog 89 #[.string s,.int .i64 (k:Nat)] w λe w'=>e=.returned (.tuple #[.int .i64 ((pG ((s.extract k (k+8)).data.toList):Int)-9223372036854775808),.int .i64 ((k:Int)+8),.int .i64 0])/\Below w.heap.size w w':=by
 have pF:(s.extract k (k+8)).size=8:=by rw[uZ];omega
 have dH:=Eo (s.extract k (k+8)).data.toList;rw[show(s.extract k (k+8)).data.toList.length=8 from pF]at dH;have KU:=xh (Cm s k w h1 hs);obtain⟨N,hN⟩:∃N,pG ((s.extract k (k+8)).data.toList)=N:=⟨_,rfl⟩;rw[hN]at KU dH ⊢;have HV:=xh (show wrap64 (IntKind.u64.wrap ((N:Int)+9223372036854775808))=(N:Int)-9223372036854775808 from by
  rw[IntKind.wrap_u64];unfold wrap64;omega)
 clear hN dH pF;go_enter func89,ntmps89;go_wp2_with fail;refine KU.o.mono ?_;rintro e w1 ⟨rfl,bf⟩;have O1:=xh bf;clear bf;go_wp2_with fail
 go_ret3
 refine⟨?_,O1.o⟩;have hv:=HV.o;simp only[RI,dj,vi,yI,jc,hv]
end Pk
namespace Pg
open Go.RowKit Pk
variable{w:World}
noncomputable def pP(P:Program)(T U ty:TypeId)(w:World)(s x:Value):Result Value:=(Builtin.append_ #[T,U] ty #[s,x]).run P w
theorem vu(P:Program)(ρ:Operand->Value)(dst:Option Tmp)(s x:Operand)(T U t:TypeId)(p:String)(af:Array Edge)(g:Option (Nat×Bool))(w:World):
  (execOp ρ {dst:=dst,op:= .call {callee:= .builtin .append,args:= #[s,x],argTypes:= #[T,U]},type:=t,pos:=p,after:=af,guard:=g}).run P w=(pP P T U t w (ρ s) (ρ x)).andThen λv w'=> .ok (.value v) w':=by
 simp[execOp,resolve,invoke,builtin,pP]
theorem Ep(n:Nat):(Builtin.zeroCells (Value.int .u8 0).cells n).toList=List.replicate n (Value.int .u8 0):=by
 apply vg
 .simp[Builtin.zeroCells,Value.cells]
 .intro i h1 h2;simp[Builtin.zeroCells,Value.cells,Nat.mod_one]
theorem iM{P:Program}{e:TypeId}{v:Value}{n:Nat}{l:List Value}(h:aT w e 1 v n l)
 (T U ty:TypeId)(ht:P.underlying T=some (.slice e))(hu:P.underlying U=some .string)(mx:(P.info? e).map (λi=>(i.zero,i.size,i.bytes))=some (some (.int .u8 0),1,1))
 (s:ByteArray)(El:n+s.size<=140737488355328):
  ∃v' w',pP P T U ty w v (.string s)= .ok v' w'/\aT w' e 1 v' (n+s.size) (l++dI s.data.toList)/\ag (ai v) w w'/\(∀g∈ai v',g∈ai v\/w.heap.size<=g):=by
 obtain⟨i,hi,hz,yO,hby⟩:=info_parts mx;have Jp:Lib.strCells s=dI s.data.toList:=rfl;have hlen:(dI s.data.toList).length=s.size:=by simp
 have tA:=h.1
 rcases h.2 with⟨rfl,rfl⟩|⟨g,cap,rest,rfl,B,hc,hm⟩
 .have nG:l=[]:=lK (by simpa using h.1);subst nG;obtain⟨v',w',hr,h2,h3,_⟩:=Lib.run_append_own_string (P:=P) w w.heap.size T U ty e i ht hu hi hz yO hby (.slice none 0 0) 0 [] (World.ownsRow_nil _ _ _ _) s (by unfold maxLen;omega) (by omega) (ak _);refine⟨v',w',hr,.yN h2,(ag.refl _ _).grown h3 (by simp[Value.ownBlock]),?_⟩;intro g hg
  rcases h2.2 with⟨rfl,_⟩|⟨g',cap,cur,rfl,hb,_⟩
  .simp[ai]at hg
  .simp[ai]at hg;subst hg;exact .inr hb
 .by_cases hr:n+s.size<=cap
  .have hf:=Lib.run_firstCells_string (P:=P) w 1 s;have uV:=run_storeCells_cells (P:=P) g n (dI s.data.toList) 0 w (λj hj=>by rw[B.cell];simp at hj ⊢;omega) (λj hj=>B.frozen _ (by simp at hj ⊢;omega)) (tV _);refine⟨.slice (some ⟨g,0,none⟩) (n+s.size) cap,w.setCells g n (dI s.data.toList),?_,⟨by simp;omega,.inr ⟨g,cap,rest.drop s.size,rfl,?_,by simp;omega,hm⟩⟩,(ag.refl _ _).setCells _ _ (by simp[ai]),by simp[ai]⟩
   .simp only[iw]at uV;rw[Jp]at hf;simp[pP,Builtin.append_,run_underlying ht,run_underlying hu,sizeOf,typeInfo,hi,yO,Builtin.lenOf,hr,hf,Addr.add_lit,uV]
   .have B2:=B.setCells (dI s.data.toList) n (by simp;omega);have e2:putAt (l++rest) n (dI s.data.toList)=l++dI s.data.toList++rest.drop s.size:=by
     unfold putAt;have:l.length=n:=by omega
     rw[hlen,<-this,qP,<-iK,sj]
    rwa [e2]at B2
  .have yP:=Lib.run_append_grow_string (P:=P) w T U ty e i (.int .u8 0) ht hu hi hz ⟨g,0,none⟩ n cap l (by rw[yO];exact h.1) (bq B 0 l (by intro j u hu;rw[bg];exact bF (aS.1 hu).1▸hu)) s (by omega) (by omega) (by rw[hby];exact growslice_fits (by omega) (by omega));have Jn:=grownCap_ge w (n+s.size) cap e;have tC:=grownCap_le_maxLen w (n+s.size) cap e (by unfold maxLen;omega)
   refine⟨_,_,yP,⟨by simp;omega,.inr ⟨w.heap.size,_,List.replicate (grownCap w (n+s.size) cap e-(n+s.size)) (Value.int .u8 0),rfl,?_,by simp;omega,tC⟩⟩,(ag.refl _ _).drew.alloc _,by simp[ai]⟩;have B3:=aJ.new w.drew e (l.toArray++(Lib.strCells s).toArray++Builtin.zeroCells (Value.int .u8 0).cells (grownCap w (n+s.size) cap e-(n+s.size)))
   have e3:l.toArray++(Lib.strCells s).toArray++Builtin.zeroCells (Value.int .u8 0).cells (grownCap w (n+s.size) cap e-(n+s.size))=(l++dI s.data.toList++List.replicate (grownCap w (n+s.size) cap e-(n+s.size)) (Value.int .u8 0)).toArray:=by
    apply rP.1;simp only[Array.toList_append,Jp]
    congr 1
    exact Ep _
   rw[<-e3];exact B3
theorem I_all(m:Nat)(h1:m<9223372036854775808)(w:World):
  Calls prog 88 #[.int .i64 (m:Nat)] w λe w'=>e=.returned (.string ⟨(fE m).toArray⟩)/\Below w.heap.size w w':=by
 have hN:(((m:Int)+9223372036854775808) % 18446744073709551616).toNat=m+9223372036854775808:=by omega
 have hNI:((m+9223372036854775808:Nat):Int)=(m:Int)+9223372036854775808:=by omega
 have K:=xh (jf (m+9223372036854775808) (by omega) w);rw[hNI]at K;unfold fE;rw[hN];have e1:IntKind.u64.wrap (m:Int)=(m:Int):=IntWalk.u64_in _ (by omega);have e2:IntKind.u64.wrap ((m:Int)+9223372036854775808)=(m:Int)+9223372036854775808:=IntWalk.u64_in _ (by omega);clear hN hNI;go_enter func88,ntmps88;go_wp2_with fail;refine K.o.mono ?_;rintro e w1 ⟨⟨v,rfl,S⟩,hb⟩;obtain⟨g,cap,rest,rfl,B,hc,_⟩:=S.form (by omega) (by omega)
 have ST:=xh (cg (P:=prog) w1 150 9 5 underlying150 underlying5 underlying9 ⟨g,0,none⟩ 8 cap (vr (m+9223372036854775808)) rfl (bq B 0 _ (by intro j u hu;rw[bg];exact bF (aS.1 hu).1▸hu)));have HB:=xh hb;clear hb S B;go_wp2_with fail;rw[ST.o];go_wp2_with fail;go_ret;exact⟨rfl,HB.o⟩
theorem U_any(m:Nat)(h1:m<18446744073709551616)(w:World):
  Calls prog 253 #[.int .u64 (m:Nat)] w λe w'=>e=.returned (.string ⟨(vr m).toArray⟩)/\Below w.heap.size w w':=by
 have K:=xh (jf m h1 w);go_enter func253,ntmps253;go_wp2_with fail;refine K.o.mono ?_;rintro e w1 ⟨⟨v,rfl,S⟩,hb⟩;obtain⟨g,cap,rest,rfl,B,hc,_⟩:=S.form (by omega) (by omega);have ST:=xh (cg (P:=prog) w1 150 9 5 underlying150 underlying5 underlying9 ⟨g,0,none⟩ 8 cap (vr m) rfl (bq B 0 _ (by intro j u hu;rw[bg];exact bF (aS.1 hu).1▸hu)));have HB:=xh hb;clear hb S B
 go_wp2_with fail;rw[ST.o];go_wp2_with fail;go_ret;exact⟨rfl,HB.o⟩
def jn(id ep kd:Int)(s:ByteArray):Value:= .agg #[.int .i64 id,.int .i64 ep,.int .i64 kd,.string s]
def Sg(id ep kd:Int)(s:ByteArray):Array Value:= #[.int .i64 id,.int .i64 ep,.int .i64 kd,.string s]
def JZ(id ep kd:Int):Bool:=decide (0<=id) && decide (0<=ep) && decide (ep<=1099511627776) && decide (0<=kd) && decide (kd<=2147483647)
theorem oI(id ep kd:Int):JZ id ep kd=true↔0<=id/\0<=ep/\ep<=1099511627776/\0<=kd/\kd<=2147483647:=by
 unfold JZ;simp only[im,decide_eq_true_eq];omega
theorem ae{W w1:World}(h:Below W.heap.size W w1)(o:Obj):Below W.heap.size W (w1.alloc o):=h.alloc h.size o
theorem oJ(id ep kd:Int)(s:ByteArray)(b:Bool)(hb:JZ id ep kd=b):
  Calls prog 222 #[jn id ep kd s] w λe w'=>e=.returned (.bool b)/\Below w.heap.size w w':=by
 have B0:=aJ.new w 162 (Sg id ep kd s);have O0:=xh (ae (Below.refl w.heap.size w) (.cells (Sg id ep kd s) 162));unfold Sg at B0 O0;have c0:(w.alloc (.cells #[.int .i64 id,.int .i64 ep,.int .i64 kd,.string s] 162)).cell? ⟨w.heap.size,0,none⟩=some (.int .i64 id):=B0.ab (i:=0) rfl;have c1:(w.alloc (.cells #[.int .i64 id,.int .i64 ep,.int .i64 kd,.string s] 162)).cell? ⟨w.heap.size,1,none⟩=some (.int .i64 ep):=B0.ab (i:=1) rfl
 have c2:(w.alloc (.cells #[.int .i64 id,.int .i64 ep,.int .i64 kd,.string s] 162)).cell? ⟨w.heap.size,2,none⟩=some (.int .i64 kd):=B0.ab (i:=2) rfl;clear B0;unfold JZ at hb;have HB:=xh hb;clear hb;unfold jn
 by_cases h1:0<=id
 .by_cases h2:0<=ep
  .by_cases h3:ep<=1099511627776
   .by_cases h4:0<=kd
    .by_cases h5:kd<=2147483647
     all_goals
      go_enter func222,ntmps222;go_wp2_with fail;go_ret;exact⟨by rw[<-HB.o];first|(simp[h1,h2,h3,h4,h5];done)|(simp[h1,h2,h3,h4,h5];omega),O0.o⟩
    .go_enter func222,ntmps222;go_wp2_with fail;go_ret;exact⟨by rw[<-HB.o];first|(simp[h1,h2,h3,h4];done)|(simp[h1,h2,h3,h4];omega),O0.o⟩
   .go_enter func222,ntmps222;go_wp2_with fail;go_ret;exact⟨by rw[<-HB.o];first|(simp[h1,h2,h3];done)|(simp[h1,h2,h3];omega),O0.o⟩
  .go_enter func222,ntmps222;go_wp2_with fail;go_ret;exact⟨by rw[<-HB.o];first|(simp[h1,h2];done)|(simp[h1,h2];omega),O0.o⟩
 .go_enter func222,ntmps222;go_wp2_with fail;go_ret;exact⟨by rw[<-HB.o];first|(simp[h1];done)|(simp[h1];omega),O0.o⟩
attribute [local go_sem ↓] Go.wp_at_zero Go.wp_at_succ
variable{w:World}{v:Value}{l:List UInt8}{w0 gb:Nat}
structure mX(w0:Nat)(w:World)(gb:Nat)(v:Value)(l:List UInt8):Prop where
 tx:aJ w gb 150 #[v]
 Pc:aT w 5 1 v l.length (dI l)
 own:∀g∈ai v,w0<=g
 low:w0<=gb
theorem cU{e t:TypeId}{size n b:Nat}{l:List Value}{cs:Array Value}(h:aT w e size v n l)(B:aJ w b t cs)(ff:t≠e):b∉ai v:=by
 rcases h.2 with⟨rfl,_⟩|⟨g,cap,rest,rfl,B2,_⟩
 .simp[ai]
 .intro hb;simp[ai]at hb;subst hb;exact B.k7 B2 ff rfl
theorem mX.below{w':World}(h:mX w0 w gb v l)(hb:Below w.heap.size w w'):mX w0 w' gb v l:=⟨h.tx.below hb h.tx.lt,h.Pc.below hb,h.own,h.low⟩
theorem mX.grow{w1:World}{v':Value}{m:List UInt8}(h:mX w0 w gb v l)(hw:w0<=w.heap.size)(S:aT w1 5 1 v' (l.length+m.length) (dI (l++m)))(o:ag (ai v) w w1)(fr:∀g∈ai v',g∈ai v\/w.heap.size<=g):
  w1.cell? ⟨gb,0,none⟩=some v/\w1.frozen? ⟨gb,0,none⟩=false/\mX w0 (w1.setCell ⟨gb,0,none⟩ v') gb v' (l++m)/\Below w0 w (w1.setCell ⟨gb,0,none⟩ v'):=by
 have hn:gb∉ai v:=cU h.Pc h.tx (by decide);have B1:=h.tx.only o hn;have B2:=B1.bE 0 v';have hn':gb∉ai v':=cU S B1 (by decide);have o2:=(ag.refl [gb] w1).setCell (p:=⟨gb,0,none⟩) (by simp) v';refine⟨B1.ab rfl,B1.frozen 0 (by simp),⟨B2,?_,λg hg=>(fr g hg).elim (h.own g) (λh=>ar hw h),h.low⟩,?_⟩
 .rw[aU];exact S.only o2 (λg hg=>by
   intro h1
   rcases aQ.1 h1 with rfl
   exact hn' hg)
 .have ow:ag (ai v++[gb]) w (w1.setCell ⟨gb,0,none⟩ v'):=(o.mono (λx hx _=>cd _ hx)).trans (o2.mono (λx hx _=>bK _ hx));exact ow.aI hw (λx hx=>(aC.1 hx).elim (h.own x) (λh1=>by rcases aQ.1 h1 with rfl;exact h.low))
section
attribute [local go_sem ↓] vu
theorem yw(h:mX w0 w gb v l)(hw:w0<=w.heap.size)(s:ByteArray)(hs:l.length+s.size<=1000000):
  Calls prog 252 #[.string s,.pointer (some ⟨gb,0,none⟩)] w λe w'=>e=.returned (.tuple #[])/\(∃v',mX w0 w' gb v' (l++s.data.toList))/\Below w0 w w':=by
 have c0:w.cell? ⟨gb,0,none⟩=some v:=h.tx.ab rfl;obtain⟨v',w1,ea,S1,ow,fr⟩:=iM (P:=prog) h.Pc 150 9 150 underlying150 underlying9 jy.eA s (by omega);have pF:s.data.toList.length=s.size:=by simp
 rw[<-cP,<-pF]at S1;obtain⟨V2,ix,rfl⟩:=au S1;obtain⟨c1,z1,B2,O2⟩:=h.grow hw S1 ow fr;obtain⟨V1,tD,rfl⟩:=au h.Pc;have EA:=xh ea;have BX:=xh B2;have OX:=xh O2;clear ea S1 ow fr B2 O2 h pF;go_enter func252,ntmps252;go_wp2_with fail;rw[EA.o];go_wp2_with fail
 go_end0
 exact⟨rfl,⟨_,BX.o⟩,OX.o⟩
end
def lk(id ep kd:Int)(s:List UInt8):List UInt8:=fE id++fE ep++(vr kd.toNat).drop 4++s
def eP(l:List UInt8)(n:Nat):List UInt8:=l++List.replicate (n-l.length) 0
def kD(id ep kd:Int)(s:List UInt8):List UInt8:=jy.bH (eP (lk id ep kd s) 252)
def dM(id ep kd:Int)(s:List UInt8):List UInt8×Int:=if JZ id ep kd=true then(if 232<s.length then([],4)else(kD id ep kd s,0))else([],2)
theorem pput_no(id ep kd:Int)(s:ByteArray)(h:JZ id ep kd=false):
  Calls prog 242 #[jn id ep kd s] w λe w'=>e=.returned (.tuple #[.string ⟨#[]⟩,.int .i64 2])/\Below w.heap.size w w':=by
 have O0:=xh (ae (Below.refl w.heap.size w) (.cells #[.int .i64 id,.int .i64 ep,.int .i64 kd,.string s] 162));have B0:=aJ.new w 162 #[.int .i64 id,.int .i64 ep,.int .i64 kd,.string s];have c0:=B0.ab (i:=0) rfl;have c1:=B0.ab (i:=1) rfl;have c2:=B0.ab (i:=2) rfl;have c3:=B0.ab (i:=3) rfl;have K:=xh (λw=>oJ (w:=w) id ep kd s false h);clear h B0;unfold jn at *;go_enter func242,ntmps242;go_wp2_with fail;refine(K.o _).mono ?_
 rintro e w1 ⟨rfl,bf⟩;have O1:=xh (aB O0.o bf);clear bf;go_wp2_with fail;go_ret2;exact⟨rfl,O1.o⟩
attribute [local go_sem ↓] bz
theorem fW(n:Int):(fE n).length=8:=by unfold fE vr;rw[oH]
theorem exl(u:ByteArray)(a b:Nat):(u.extract a b).data.toList=(u.data.toList.drop a).take (b-a):=by
 rw[Jy,RM,JH]
theorem oK(n:Nat):(vr n).length=8:=by unfold vr;rw[oH]
theorem iN(l:List UInt8):(⟨l.toArray⟩:ByteArray).size=l.length:=by show l.toArray.size=_;simp
theorem Si{w:World}(id ep kd:Nat)(s:ByteArray)(hid:id<9223372036854775808)(Gf:ep<=1099511627776)(Co:kd<=2147483647)(hs:s.size<=232):
  Calls prog 242 #[jn id ep kd s] w λe w'=>e=.returned (.tuple #[.string ⟨(kD id ep kd s.data.toList).toArray⟩,.int .i64 0])/\Below w.heap.size w w':=by
 have fu:JZ id ep kd=true:=by rw[oI];omega
 have B0:=aJ.new w 162 #[.int .i64 (id:Nat),.int .i64 (ep:Nat),.int .i64 (kd:Nat),.string s];have O0:=xh (ae (Below.refl w.heap.size w) (.cells #[.int .i64 (id:Nat),.int .i64 (ep:Nat),.int .i64 (kd:Nat),.string s] 162));have KR:=xh (λw=>oJ (w:=w) id ep kd s true fu);have c0:=B0.ab (i:=0) rfl;have c1:=B0.ab (i:=1) rfl;have c2:=B0.ab (i:=2) rfl;have c3:=B0.ab (i:=3) rfl;have B0:=xh B0;have hsI:¬(232:Int)<(s.size:Int):=by omega
 unfold jn at *;go_enter func242,ntmps242;go_wp2_with fail;refine(KR.o _).mono ?_;rintro e w1 ⟨rfl,bf⟩;have O1:=xh (aB O0.o bf);have B1:=xh (B0.o.below bf B0.o.lt);have a1:=O1.o.size;have a2:w.heap.size<w1.heap.size:=B1.o.lt;clear c0 c1 c2 c3 bf B0 O0;have c3:=B1.o.ab (i:=3) rfl;have B2:=xh (B1.o.alloc (.cells #[.slice none 0 0] 150));have O2:=xh (ae O1.o (.cells #[.slice none 0 0] 150))
 have F2:Hid (mX w1.heap.size (w1.alloc (.cells #[.slice none 0 0] 150)) w1.heap.size (.slice none 0 0) []):=xh ⟨aJ.new _ _ _,aT.nil _ _ _,by simp[ai],ak _⟩;have z2:w1.heap.size<=(w1.alloc (.cells #[.slice none 0 0] 150)).heap.size:=by simp
 have d0:=B2.o.ab (i:=0) rfl;have KI:=xh (I_all id hid);have KE:=xh (I_all ep (by omega));have KU:=xh (U_any kd (by omega));have HS:=xh hs;go_wp2_with fail;refine(KI.o _).mono ?_;rintro e w3 ⟨rfl,gh⟩;have O3:=xh (aB O2.o gh);have B3:=xh (B2.o.below gh B2.o.lt);have F3:=xh (F2.o.below gh);have z3:=ar z2 gh.size;clear d0 gh B2 O2 F2 z2 c3;go_wp2_with fail
 refine(yw F3.o z3 _ (by rw[iN,fW];simp)).mono ?_;rintro e w4 ⟨rfl,⟨v4,f4⟩,jw⟩;have O4:=xh (O3.o.trans (jw.mono a1));have B4:=xh (B3.o.below jw a2);have F4:=xh f4;have z4:=ar z3 jw.size;clear f4 jw O3 B3 F3 z3;have d1:=B4.o.ab (i:=1) rfl;go_wp2_with fail;refine(KE.o _).mono ?_;rintro e w5 ⟨rfl,nC⟩;have O5:=xh (aB O4.o nC);have B5:=xh (B4.o.below nC B4.o.lt);have F5:=xh (F4.o.below nC)
 have z5:=ar z4 nC.size;clear nC O4 B4 F4 z4;clear d1;go_wp2_with fail;refine(yw F5.o z5 _ (by simp[fW,iN])).mono ?_;rintro e w6 ⟨rfl,⟨v6,f6⟩,sA⟩;have O6:=xh (O5.o.trans (sA.mono a1));have B6:=xh (B5.o.below sA a2);have F6:=xh f6;have z6:=ar z5 sA.size;clear f6 sA O5 B5 F5 z5;have d2:=B6.o.ab (i:=2) rfl;have q1:IntKind.u64.wrap (kd:Int)=(kd:Int):=IntWalk.u64_in _ (by omega)
 obtain⟨U,hU⟩:∃U:ByteArray,(⟨(vr kd).toArray⟩:ByteArray)=U:=⟨_,rfl⟩;have hU8:U.size=8:=by rw[<-hU,iN,oK]
 have Gx:(U.extract 4 8).data.toList=(vr kd).drop 4:=by
  rw[<-hU,exl];exact cy (by rw[cO];have:=oK kd;simp[this])
 rw[hU]at KU;have HU:=xh hU;have HUL:=xh Gx;clear hU Gx;go_wp2_with fail;refine(KU.o _).mono ?_;rintro e w7 ⟨rfl,gD⟩;have O7:=xh (aB O6.o gD);have B7:=xh (B6.o.below gD B6.o.lt);have F7:=xh (F6.o.below gD);have z7:=ar z6 gD.size;clear gD O6 B6 F6 z6;clear d2;go_wp2_with fail;refine(yw F7.o z7 _ (by simp[fW,iN,uZ];omega)).mono ?_;rintro e w8 ⟨rfl,⟨v8,f8⟩,xZ⟩
 have O8:=xh (O7.o.trans (xZ.mono a1));have B8:=xh (B7.o.below xZ a2);have F8:=xh f8;have z8:=ar z7 xZ.size;clear f8 xZ O7 B7 F7 z7;have d3:=B8.o.ab (i:=3) rfl;go_wp2_with fail;refine(yw F8.o z8 _ (by simp[fW,iN,uZ];omega)).mono ?_;rintro e w9 ⟨rfl,⟨v9,f9⟩,hb9⟩;have O9:=xh (O8.o.trans (hb9.mono a1));have B9:=xh (B8.o.below hb9 a2);have F9:=xh f9;have z9:=ar z8 hb9.size
 clear f9 hb9 O8 B8 F8 z8;clear d3;have L9:=xh (show([]++fE (id:Int)++fE (ep:Int)++(U.extract 4 8).data.toList++s.data.toList)=lk id ep kd s.data.toList from by rw[HUL.o,cW];rfl);have F9:=xh (show mX w1.heap.size w9 w1.heap.size v9 (lk id ep kd s.data.toList)from by have h:=F9.o;rw[<-L9.o];exact h);have HB:=xh (show(lk id ep kd s.data.toList).length=20+s.size from by unfold lk;simp[fW,oK];omega)
 obtain⟨L,hL⟩:∃L,lk (id:Int) ep kd s.data.toList=L:=⟨_,rfl⟩;rw[hL]at F9 HB;have HL:=xh hL;clear hL;clear L9 HU HUL hU8 KI KE KU KR;go_wp2_with fail
 go_loopg [37] 253 (λk lv wr=> ∃v j,20+s.size+j<=252/\253-(20+s.size+j)<=k/\Hid (mX w1.heap.size wr w1.heap.size v (L++List.replicate j 0))/\Hid (Below w.heap.size w wr)/\w1.heap.size<=wr.heap.size)
 case atStart=>exact⟨v9,0,by omega,by omega,xh (by rw[Eh,iJ];exact F9.o),xh O9.o,z9⟩
 case round=>
  obtain⟨v,j,hj,hk,F,O,z⟩:=hrel;have hlen:(L++List.replicate j 0).length=20+s.size+j:=by rw[aU,HB.o,ez]
  have e0:=F.o.tx.ab (i:=0) rfl;have hsv:=F.o.Pc;rw[hlen]at hsv;obtain⟨VA,vc,rfl⟩:=au hsv
  by_cases h':20+s.size+j<252
  .have hI:((20+s.size+j:Nat):Int)<252:=by omega
   obtain⟨v',w2,ea,S2,ow,fr⟩:=cQ (P:=prog) hsv 150 150 (.int .u8 0) 1 underlying150 jy.eA rfl (.int .u8 0) rfl (by unfold maxLen;omega) (by omega);obtain⟨V2,ix,rfl⟩:=au S2;have S3:aT w2 5 1 (.slice V2 (20+s.size+j+1) ix) ((L++List.replicate j 0).length+[(0:UInt8)].length) (dI (L++List.replicate j 0++[0])):=by
    rw[hlen,cP];exact S2
   obtain⟨c1,z1,B2,O2⟩:=F.o.grow z S3 ow fr;have z2:w1.heap.size<=(w2.setCell ⟨w1.heap.size,0,none⟩ (.slice V2 (20+s.size+j+1) ix)).heap.size:=by
    have:=ow.size;simp[World.setCell];omega
   have EA:=xh ea;have BX:=xh (show mX w1.heap.size (w2.setCell ⟨w1.heap.size,0,none⟩ (.slice V2 (20+s.size+j+1) ix)) w1.heap.size (.slice V2 (20+s.size+j+1) ix) (L++List.replicate (j+1) 0)from by
    rw[qM,<-cr];exact B2)
   have OX:=xh (O.o.trans (O2.mono a1));clear ea S2 S3 ow fr B2 O2 hsv hlen;go_wp2_with fail;rw[EA.o];go_wp2_with fail
   go_roundg (253-(20+s.size+(j+1)))
   case measure=>omega
   case rel=>exact⟨_,j+1,by omega,ak _,BX,OX,z2⟩
  .have hje:20+s.size+j=252:=by omega
   have hpad:L++List.replicate j 0=eP L 252:=by unfold eP;rw[HB.o];congr 2;omega
   rw[hpad]at F;have x6:(eP L 252).length=252:=by rw[<-hpad,hlen,hje]
   rw[hje]at e0 hsv;rw[hpad]at hsv;clear hpad hlen;obtain⟨g,cap,rest,hv,B,_⟩:=hsv.form (by omega) (by omega);injection hv with mQ oe Gg
   subst mQ Gg;have ST:=xh (cg (P:=prog) wr 150 9 5 underlying150 underlying5 underlying9 ⟨g,0,none⟩ 252 vc (eP L 252) x6 (bq B 0 _ (by intro j u hu;rw[bg];exact bF (aS.1 hu).1▸hu)));have KL:=xh (jy.yv ⟨(eP L 252).toArray⟩ wr (by rw[iN,x6];omega));have HF:=xh (show jy.bH (eP L 252)=kD id ep kd s.data.toList from by unfold kD;rw[HL.o])
   clear F B hsv x6;go_wp2_with fail;rw[ST.o];go_wp2_with fail;refine KL.o.mono ?_;rintro e wz ⟨rfl,hbz⟩;have OZ:=xh (aB O.o hbz);clear hbz;go_wp2_with fail;go_ret2;exact⟨by rw[<-HF.o];rfl,OZ.o⟩
end Pg
namespace Pg
open Go.RowKit Pk
attribute [local go_sem ↓] Go.wp_at_zero Go.wp_at_succ
variable{w:World}{g:Nat}
structure PG where
 id:Int
 ep:Int
 kd:Int
 s:List UInt8
def PG.zero:PG:=⟨0,0,0,[]⟩
def PG.val(p:PG):Value:=jn p.id p.ep p.kd ⟨p.s.toArray⟩
def lL(l:List UInt8):PG:=⟨(pG ((l.drop 4).take 8):Int)-9223372036854775808,(pG ((l.drop 12).take 8):Int)-9223372036854775808,(pG ((l.drop 20).take 4):Nat),l.drop 24⟩
def jL(l:List UInt8):PG×Int:=
 if l.length≠256 then(.zero,6)
 else if jy.jl (jy.k8 (l.drop 4))≠l.take 4 then(.zero,14)
 else if JZ (lL l).id (lL l).ep (lL l).kd=true then(lL l,0)else(.zero,14)
theorem Pd(l:List UInt8):pG ([0,0,0,0]++l)=pG l:=by simp[pG]
theorem dY{fn:Func}{p u:Tmp}{id ep kd:Int}{s:ByteArray}{tmps:Array Value}(h:fn.results= #[.cell p 162,.tmp u])(hp:tmps.getD p undef=.pointer (some ⟨g,0,none⟩))(B:aJ w g 162 #[.int .i64 id,.int .i64 ep,.int .i64 kd,.string s]):
  (results fn tmps).run prog w=.ok (.tuple #[jn id ep kd s,tmps.getD u undef]) w:=by
 have c0:=B.ab (i:=0) rfl;have c1:=B.ab (i:=1) rfl;have c2:=B.ab (i:=2) rfl;have c3:=B.ab (i:=3) rfl;rw[results_cell_tmp h,hp];clear h hp B;unfold jn;go_simp
abbrev iy:Array Value:= #[.int .i64 0,.int .i64 0,.int .i64 0,.string ⟨#[]⟩]
theorem kh{cs:Array Value}(B:aJ w g 162 cs)(hc:cs.size=4)(id ep kd:Int)(s:ByteArray):
  aJ ((((w.setCell ⟨g,0,none⟩ (.int .i64 id)).setCell ⟨g,1,none⟩ (.int .i64 ep)).setCell ⟨g,2,none⟩ (.int .i64 kd)).setCell ⟨g,3,none⟩ (.string s)) g 162 #[.int .i64 id,.int .i64 ep,.int .i64 kd,.string s]:=by
 obtain⟨a,b,c,d,rfl⟩:∃a b c d,cs= #[a,b,c,d]:=by
  obtain⟨l⟩:=cs
  match l,hc with
  |[a,b,c,d],_=>exact⟨a,b,c,d,rfl⟩
 exact(((B.bE 0 (.int .i64 id)).bE 1 (.int .i64 ep)).bE 2 (.int .i64 kd)).bE 3 (.string s)
theorem fA{W:World}(h:Below W.heap.size W w)(hg:W.heap.size<=g)(id ep kd:Int)(s:ByteArray):
  Below W.heap.size W ((((w.setCell ⟨g,0,none⟩ (.int .i64 id)).setCell ⟨g,1,none⟩ (.int .i64 ep)).setCell ⟨g,2,none⟩ (.int .i64 kd)).setCell ⟨g,3,none⟩ (.string s)):=
 (((h.setCell (p:=⟨g,0,none⟩) hg _).setCell (p:=⟨g,1,none⟩) hg _).setCell (p:=⟨g,2,none⟩) hg _).setCell (p:=⟨g,3,none⟩) hg _
theorem Sj(s:ByteArray)(h:s.size≠256):
  Calls prog 185 #[.string s] w λe w'=>e=.returned (.tuple #[PG.zero.val,.int .i64 6])/\Below w.heap.size w w':=by
 have B0:=xh (aJ.new w 162 iy);have O0:=xh (ae (Below.refl w.heap.size w) (.cells iy 162));have hI:((s.size:Int) != 256)=true:=by rw[bne_iff_ne];omega
 go_enter func185,ntmps185;go_wp2_with fail;exact bodyPost_ret (dY rfl rfl B0.o) rfl ⟨rfl,O0.o⟩
theorem Er(s:ByteArray)(h:s.size=256)(hc:jy.jl (jy.k8 (s.data.toList.drop 4))≠s.data.toList.take 4):
  Calls prog 185 #[.string s] w λe w'=>e=.returned (.tuple #[PG.zero.val,.int .i64 14])/\Below w.heap.size w w':=by
 have B0:=xh (aJ.new w 162 iy);have O0:=xh (ae (Below.refl w.heap.size w) (.cells iy 162));have hI:((s.size:Int) != 256)=false:=by rw[bne_eq_false_iff_eq];omega
 have K:=xh (λw=>jy.Gw s w (by omega) (by unfold maxLen;omega) hc);clear hc;go_enter func185,ntmps185;go_wp2_with fail;refine(K.o _).mono ?_;rintro e w1 ⟨rfl,bf⟩;have O1:=xh (aB O0.o bf);have B1:=xh (B0.o.below bf B0.o.lt);clear bf;have z0:=B1.o.frozen 0 (by simp);have z1:=B1.o.frozen 1 (by simp);have z2:=B1.o.frozen 2 (by simp);have z3:=B1.o.frozen 3 (by simp);have c0:=B1.o.ab (i:=0) rfl;have c1:=B1.o.ab (i:=1) rfl
 have c2:=B1.o.ab (i:=2) rfl;have c3:=B1.o.ab (i:=3) rfl;have ZB:=xh (kh B1.o rfl 0 0 0 ⟨#[]⟩);have ZO:=xh (fA O1.o (ak _) 0 0 0 ⟨#[]⟩);go_wp2_with fail;exact bodyPost_ret (dY rfl rfl ZB.o) rfl ⟨rfl,ZO.o⟩
theorem yS(s:ByteArray)(h:s.size=256)(hc:jy.jl (jy.k8 (s.data.toList.drop 4))=s.data.toList.take 4)(b:Bool)(hb:JZ (lL s.data.toList).id (lL s.data.toList).ep (lL s.data.toList).kd=b):
  Calls prog 185 #[.string s] w λe w'=>e=.returned (.tuple #[if b then(lL s.data.toList).val else PG.zero.val,.int .i64 (if b then 0 else 14)])/\Below w.heap.size w w':=by
 have B0:=xh (aJ.new w 162 iy);have O0:=xh (ae (Below.refl w.heap.size w) (.cells iy 162));have hI:((s.size:Int) != 256)=false:=by rw[bne_eq_false_iff_eq];omega
 have K:=λw=>jy.cut_ok s w (by omega) (by unfold maxLen;omega) hc;obtain⟨T,hT⟩:∃T,s.extract 4 s.size=T:=⟨_,rfl⟩;rw[hT]at K;have hTs:T.size=252:=by rw[<-hT,uZ];omega
 have Jq:T.data.toList=s.data.toList.drop 4:=by rw[<-hT,exl];exact cy (by simp)
 have K:=xh K;have KI:=xh (Cn T 0 (h1:=by omega) (hs:=by omega));have KJ:=xh (Cn T 8 (h1:=by omega) (hs:=by omega));obtain⟨U,hU⟩:∃U,(⟨#[0,0,0,0]⟩:ByteArray)++T.extract 16 20=U:=⟨_,rfl⟩;have Rx:U.size=8:=by rw[<-hU,DT,uZ];show 4+_=8;omega
 have KU:=xh (Cm U 0 (h1:=by omega) (hs:=by omega));have Gx:U.data.toList=[0,0,0,0]++(s.data.toList.drop 20).take 4:=by
  rw[<-hU,Jx,Array.toList_append,exl,Jq,iK]
 obtain⟨P,hP⟩:∃P,T.extract 20 252=P:=⟨_,rfl⟩;have hPl:P.data.toList=s.data.toList.drop 24:=by
  rw[<-hP,exl,Jq,iK];exact cy (by simp;omega)
 obtain⟨N,hN⟩:∃N,pG ((s.data.toList.drop 20).take 4)=N:=⟨_,rfl⟩;have hNlt:N<4294967296:=by
  have h1:=Eo ((s.data.toList.drop 20).take 4);have h2:((s.data.toList.drop 20).take 4).length=4:=by simp;omega
  rw[h2,hN]at h1;omega
 have e1:((pG (T.extract 0 (0+8)).data.toList:Nat):Int)-9223372036854775808=(lL s.data.toList).id:=by rw[exl,Jq];rfl
 have e2:((pG (T.extract 8 (8+8)).data.toList:Nat):Int)-9223372036854775808=(lL s.data.toList).ep:=by rw[exl,Jq,iK];rfl
 have e3:pG (U.extract 0 (0+8)).data.toList=N:=by
  rw[exl,D0,cy (by simp;omega),Gx,Pd,hN]
 rw[e1]at KI;rw[e2]at KJ;rw[e3]at KU;have Co:(lL s.data.toList).kd=(N:Int):=by rw[<-hN];rfl
 have HV:=xh (show(lL s.data.toList).val=jn (lL s.data.toList).id (lL s.data.toList).ep N P from by
  have:P=⟨(lL s.data.toList).s.toArray⟩:=by
   have:P.data=(s.data.toList.drop 24).toArray:=by rw[<-hPl]
   cases P;simp only at this;subst this;rfl
  rw[this,<-Co];rfl)
 have i1: -9223372036854775808<=(lL s.data.toList).id/\(lL s.data.toList).id<=9223372036854775807:=by
  have h1:=Eo ((s.data.toList.drop 4).take 8);have h2:((s.data.toList.drop 4).take 8).length=8:=by simp;omega
  rw[h2]at h1;show -9223372036854775808<=((pG _:Nat):Int)-9223372036854775808/\((pG _:Nat):Int)-9223372036854775808<=9223372036854775807;omega
 rw[Co]at hb;generalize (lL s.data.toList).id=id at *;generalize (lL s.data.toList).ep=ep at *;generalize (lL s.data.toList).val=V at *;have q1:IntKind.i64.wrap (N:Int)=(N:Int):=IntWalk.i64_in _ (by omega);have KR:=xh (λw=>oJ (w:=w) id ep N P b hb);unfold jn at KR;clear hc hT hb e1 e2 e3 Co hN Gx Jq hPl;go_enter func185,ntmps185;go_wp2_with fail;refine(K.o _).mono ?_;rintro e w1 ⟨rfl,bf⟩;have O1:=xh (aB O0.o bf)
 have B1:=xh (B0.o.below bf B0.o.lt);clear bf O0 B0;go_wp2_with fail;refine(KI.o _).mono ?_;rintro e w2 ⟨rfl,cA⟩;have O2:=xh (aB O1.o cA);have B2:=xh (B1.o.below cA B1.o.lt);clear cA O1 B1;go_wp2_with fail;refine(KJ.o _).mono ?_;rintro e w3 ⟨rfl,gh⟩;have O3:=xh (aB O2.o gh);have B3:=xh (B2.o.below gh B2.o.lt);clear gh O2 B2;go_wp2_with fail;refine(KU.o _).mono ?_;rintro e w4 ⟨rfl,jw⟩
 have O4:=xh (ae (aB O3.o jw) (.cells #[.int .i64 id,.int .i64 ep,.int .i64 (N:Int),.string P] 162));have B4:=xh ((B3.o.below jw B3.o.lt).alloc (.cells #[.int .i64 id,.int .i64 ep,.int .i64 (N:Int),.string P] 162));have P4:=xh (aJ.new w4 162 #[.int .i64 id,.int .i64 ep,.int .i64 (N:Int),.string P]);clear jw O3 B3;go_wp2_with fail;generalize Pe:w4.alloc (.cells #[.int .i64 id,.int .i64 ep,.int .i64 (N:Int),.string P] 162)=w5 at *;clear Pe
 refine(KR.o _).mono ?_;rintro e w6 ⟨rfl,sA⟩;have O6:=xh (aB O4.o sA);have B6:=xh (B4.o.below sA B4.o.lt);have P6:=xh (P4.o.below sA P4.o.lt);have z0:=B6.o.frozen 0 (by simp);have z1:=B6.o.frozen 1 (by simp);have z2:=B6.o.frozen 2 (by simp);have z3:=B6.o.frozen 3 (by simp);have c0:=B6.o.ab (i:=0) rfl;have c1:=B6.o.ab (i:=1) rfl;have c2:=B6.o.ab (i:=2) rfl;have c3:=B6.o.ab (i:=3) rfl
 have p0:=P6.o.ab (i:=0) rfl;have p1:=P6.o.ab (i:=1) rfl;have p2:=P6.o.ab (i:=2) rfl;have p3:=P6.o.ab (i:=3) rfl;clear sA O4 B4 P4
 cases b
 .have ZB:=xh (kh B6.o rfl 0 0 0 ⟨#[]⟩);have ZO:=xh (fA O6.o (ak _) 0 0 0 ⟨#[]⟩);go_wp2_with fail;exact bodyPost_ret (dY rfl rfl ZB.o) rfl ⟨rfl,ZO.o⟩
 .have ZB:=xh (kh B6.o rfl id ep N P);have ZO:=xh (fA O6.o (ak _) id ep N P);go_wp2_with fail;exact bodyPost_ret (dY rfl rfl ZB.o) rfl ⟨by rw[HV.o];rfl,ZO.o⟩
attribute [local go_sem ↓] bz
end Pg
namespace Pg
open Go.RowKit Pk
attribute [local go_sem ↓] Go.wp_at_zero Go.wp_at_succ
variable{w:World}
theorem Sk(id ep kd:Int)(s:ByteArray)(h:JZ id ep kd=true)(hs:232<s.size):
  Calls prog 242 #[jn id ep kd s] w λe w'=>e=.returned (.tuple #[.string ⟨#[]⟩,.int .i64 4])/\Below w.heap.size w w':=by
 have O0:=xh (ae (Below.refl w.heap.size w) (.cells #[.int .i64 id,.int .i64 ep,.int .i64 kd,.string s] 162));have B0:=xh (aJ.new w 162 #[.int .i64 id,.int .i64 ep,.int .i64 kd,.string s]);have c0:=B0.o.ab (i:=0) rfl;have c1:=B0.o.ab (i:=1) rfl;have c2:=B0.o.ab (i:=2) rfl;have c3:=B0.o.ab (i:=3) rfl;have K:=xh (λw=>oJ (w:=w) id ep kd s true h);have hI:(232:Int)<(s.size:Int):=by omega
 clear h;unfold jn at *;go_enter func242,ntmps242;go_wp2_with fail;refine(K.o _).mono ?_;rintro e w1 ⟨rfl,bf⟩;have O1:=xh (aB O0.o bf);have B1:=xh (B0.o.below bf B0.o.lt);clear bf c0 c1 c2 c3;have c3:=B1.o.ab (i:=3) rfl;go_wp2_with fail;go_ret2;exact⟨rfl,O1.o⟩
theorem Sq(N:Nat):(vr N).drop 4=[UInt8.ofNat (N / 16777216),UInt8.ofNat (N / 65536),UInt8.ofNat (N / 256),UInt8.ofNat N]:=by
 have e:vr N=[UInt8.ofNat (N / 72057594037927936),UInt8.ofNat (N / 281474976710656),UInt8.ofNat (N / 1099511627776),UInt8.ofNat (N / 4294967296),UInt8.ofNat (N / 16777216),UInt8.ofNat (N / 65536),UInt8.ofNat (N / 256),UInt8.ofNat (N / 1)]:=rfl;rw[e,Nat.div_one];rfl
theorem Sr(id ep kd:Int)(s:List UInt8)(h:s.length<=232):fE id++fE ep++(vr kd.toNat).drop 4++eP s 232=eP (lk id ep kd s) 252:=by
 unfold eP lk;have h1:(fE id++fE ep++(vr kd.toNat).drop 4++s).length=20+s.length:=by simp[fW,oK];omega
 rw[h1,<-cr]
 congr 2;omega
theorem Gy(id ep kd:Int)(s:ByteArray)(hid:id<=9223372036854775807):
  Calls prog 242 #[jn id ep kd s] w λe w'=>e=.returned (.tuple #[.string ⟨(dM id ep kd s.data.toList).1.toArray⟩,.int .i64 (dM id ep kd s.data.toList).2])/\Below w.heap.size w w':=by
 have hl:s.data.toList.length=s.size:=by simp
 unfold dM;rw[hl]
 by_cases h:JZ id ep kd=true
 .rw[if_pos h]
  by_cases hs:232<s.size
  .rw[if_pos hs];exact Sk id ep kd s h hs
  .rw[if_neg hs];have hb:=(oI id ep kd).1 h;obtain⟨a,rfl⟩:=eT hb.1;obtain⟨b,rfl⟩:=eT hb.2.1;obtain⟨c,rfl⟩:=eT hb.2.2.2.1;exact Si a b c s (by omega) (by omega) (by omega) (by omega)
 .rw[if_neg h];exact pput_no id ep kd s (by simpa using h)
theorem Ss{w:World}(s:ByteArray):
  Calls prog 185 #[.string s] w λe w'=>e=.returned (.tuple #[(jL s.data.toList).1.val,.int .i64 (jL s.data.toList).2])/\Below w.heap.size w w':=by
 have hl:s.data.toList.length=s.size:=by simp
 unfold jL;rw[hl]
 by_cases h:s.size=256
 .rw[if_neg (by omega)]
  by_cases hc:jy.jl (jy.k8 (s.data.toList.drop 4))=s.data.toList.take 4
  .rw[if_neg (by simpa using hc)]
   by_cases hb:JZ (lL s.data.toList).id (lL s.data.toList).ep (lL s.data.toList).kd=true
   .rw[if_pos hb];simpa using yS (w:=w) s h hc true hb
   .rw[if_neg hb];simpa using yS (w:=w) s h hc false (by simpa using hb)
  .rw[if_pos hc];exact Er s h hc
 .rw[if_pos h];exact Sj s h
end Pg
end Go.Proofs.YtmonobkginiajaaGreat
