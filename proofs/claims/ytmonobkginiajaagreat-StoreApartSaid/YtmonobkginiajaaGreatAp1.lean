/- packed. -/
import Derived.Deep.RegionHeld
import Derived.Test.YtmonobkginiajaaGreatRows
import Derived.WalkKit
import Derived.ProofKit
import Derived.OpenShut
import Derived.SizedLaws
import Derived.JoinedCond
import Derived.WalkLawsBesides
import Derived.WalkSpells
import Derived.Lib.Hide
import Derived.Laws.CopyOwn
import Derived.Deep.Draws
import Derived.Laws.Rows
import Derived.SliceStrings
import Derived.OrdersHeld
import Derived.Deep.QuietTactic
import Derived.BigQuiet
import Derived.Laws.Bits64b
set_option linter.all false
set_option maxRecDepth 100000
set_option maxHeartbeats 8000000
namespace Go
theorem RowKit.Hid.o{p:Prop}(h:RowKit.Hid p):p:=h
theorem Shut.o{p:Prop}(h:Shut p):p:=h
end Go
namespace Go.Proofs.YtmonobkginiajaaGreat
open Go.Proofs.Tryz
section
theorem xh{p:Prop}(h:p):RowKit.Hid p:=h
def Qh:=@Array.eq_empty_of_size_eq_zero
def Qi:=@Array.getElem?_eq_none
def Qj:=@Array.length_toList
def Qk:=@Array.toList_append
def Ql:=@Array.toList_extract
def nh:=@Array.toList_inj
def Bh:=@Bool.and_comm
def gH:=@Bool.and_eq_true
def Lh:=@Bool.eq_false_iff
def Fh:=@Bool.eq_iff_iff
def lZ:=@Bool.false_eq_true
def CT:=@Bool.not_eq_true
def nU:=@Bool.or_eq_true
def Ik:=@Bool.true_and
def CU:=@ByteArray.data_append
def Il:=@ByteArray.data_extract
def iS:=@ByteArray.ext
def xT:=@ByteArray.size_append
def um:=@ByteArray.size_extract
def dL:=@Int.eq_ofNat_of_zero_le
def jK:=@Int.le_refl
def Im:=@Int.tdiv_eq_ediv_of_nonneg
def gv:=@Int.toNat_natCast
def Io:=@Int.toNat_of_nonneg
def nV:=@List.all_eq_true
def cL:=@List.append_assoc
def Ip:=@List.append_eq_nil_iff
def Iq:=@List.append_inj'
def jh:=@List.append_nil
def mU:=@List.cons_append
def xU:=@List.countP_append
def rM:=@List.countP_congr
def xV:=@List.countP_eq_length_filter
def Ir:=@List.countP_le_length
def CY:=@List.countP_map
def Is:=@List.countP_singleton
def It:=@List.count_append
def Iu:=@List.count_cons
def C9:=@List.drop_append_of_le_length
def ji:=@List.drop_drop
def uo:=@List.drop_eq_getElem_cons
def j8:=@List.drop_eq_nil_of_le
def rN:=@List.drop_left
def Iv:=@List.drop_length
def xW:=@List.drop_succ_cons
def xX:=@List.drop_zero
def nW:=@List.eq_nil_of_length_eq_zero
def rO:=@List.eq_nil_or_concat
def xY:=@List.eq_of_mem_replicate
def uq:=@List.exists_mem_of_ne_nil
def xZ:=@List.ext_getElem
def l5:=@List.ext_getElem?
def Iw:=@List.extract_eq_take_drop
def rP:=@List.filter_append
def fL:=@List.filter_cons
def Iy:=@List.filter_eq_nil_iff
def ur:=@List.filter_eq_self
def mV:=@List.filter_filter
def Da:=@List.filter_sublist
def Iz:=@List.findIdx_cons
def rQ:=@List.findIdx_getElem
def nX:=@List.findIdx_le_length
def uu:=@List.flatMap_append
def gS:=@List.flatMap_cons
def Db:=@List.foldl_cons
def jj:=@List.getD_eq_getElem?_getD
def bD:=@List.getElem?_append_left
def dE:=@List.getElem?_append_right
def pA:=@List.getElem?_cons_succ
def rR:=@List.getElem?_cons_zero
def iT:=@List.getElem?_drop
def aT:=@List.getElem?_eq_getElem
def gw:=@List.getElem?_eq_none
def aX:=@List.getElem?_eq_some_iff
def kY:=@List.getElem?_map
def nY:=@List.getElem?_of_mem
def Dc:=@List.getElem?_replicate
def iw:=@List.getElem?_set
def gx:=@List.getElem?_set_ne
def dM:=@List.getElem?_set_self
def ya:=@List.getElem?_take
def uv:=@List.getElem?_take_of_lt
def cM:=@List.getElem?_toArray
def IA:=@List.getElem_cons_succ
def uw:=@List.getElem_map
def j9:=@List.getElem_mem
def pB:=@List.getElem_of_mem
def Dd:=@List.getElem_range
def IB:=@List.getElem_take
def IC:=@List.getLast?_map
def ID:=@List.insertIdx_succ_cons
def aQ:=@List.length_append
def ff:=@List.length_cons
def de:=@List.length_drop
def IE:=@List.length_eq_zero_iff
def IF:=@List.length_eraseIdx_of_lt
def Qm:=@List.length_erase_of_mem
def yb:=@List.length_filter_le
def yc:=@List.length_insertIdx
def fM:=@List.length_map
def kz:=@List.length_nil
def sR:=@List.length_pos_iff
def fi:=@List.length_replicate
def bU:=@List.length_set
def mE:=@List.length_singleton
def bK:=@List.length_take
def cW:=@List.map_append
def iK:=@List.map_congr_left
def eh:=@List.map_cons
def jf:=@List.map_map
def mG:=@List.map_nil
def qt:=@List.map_set
def mH:=@List.map_take
def az:=@List.mem_append
def bQ:=@List.mem_append_left
def bF:=@List.mem_append_right
def ar:=@List.mem_cons
def bz:=@List.mem_cons_of_mem
def gy:=@List.mem_cons_self
def dS:=@List.mem_filter
def lq:=@List.mem_flatMap
def xj:=@List.mem_iff_getElem
def Df:=@List.mem_iff_getElem?
def qu:=@List.mem_insertIdx
def cg:=@List.mem_map
def lu:=@List.mem_map_of_mem
def aA:=@List.mem_of_getElem?
def sS:=@List.mem_of_mem_drop
def sU:=@List.mem_of_mem_tail
def sV:=@List.mem_of_mem_take
def xo:=@List.mem_or_eq_of_mem_set
def kA:=@List.mem_range
def aP:=@List.mem_singleton
def cX:=@List.nil_append
def gz:=@List.nodup_append
def iL:=@List.nodup_cons
def Dg:=@List.nodup_iff_pairwise_ne
def qv:=@List.nodup_nil
def gC:=@List.not_mem_nil
def Dh:=@List.not_of_lt_findIdx
def dI:=@List.pairwise_append
def dJ:=@List.pairwise_cons
def sW:=@List.pairwise_iff_getElem
def sX:=@List.pairwise_map
def Di:=@List.pairwise_singleton
def Dj:=@List.perm_iff_count
def Dl:=@List.range_succ
def sY:=@List.replicate_succ'
def Dm:=@List.replicate_zero
def qx:=@List.setIfInBounds_toArray
def sZ:=@List.set_append_left
def ta:=@List.set_append_right
def jL:=@List.set_set
def qy:=@List.singleton_append
def jM:=@List.size_toArray
def xq:=@List.sum_append
def kC:=@List.sum_cons
def jN:=@List.tail_cons
def kD:=@List.take_add_one
def mI:=@List.take_append_drop
def qz:=@List.take_append_of_le_length
def qA:=@List.take_left
def gY:=@List.take_length
def bY:=@List.take_of_length_le
def mJ:=@List.take_succ_cons
def jO:=@List.take_succ_eq_append_getElem
def iM:=@List.take_zero
def qB:=@Nat.add_comm
def td:=@Nat.add_sub_cancel
def kE:=@Nat.add_zero
def Dn:=@Nat.eq_zero_or_pos
def te:=@Nat.le_of_succ_le_succ
def aj:=@Nat.le_refl
def ay:=@Nat.le_trans
def qC:=@Nat.lt_irrefl
def tf:=@Nat.lt_of_lt_of_le
def eT:=@Nat.lt_or_ge
def nZ:=@Nat.lt_succ_iff_lt_or_eq
def xr:=@Nat.min_eq_left
def Dp:=@Nat.mod_eq_of_lt
def qD:=@Nat.mod_lt
def xu:=@Nat.mod_two_eq_zero_or_one
def qE:=@Nat.mul_add
def Dq:=@Nat.mul_assoc
def tg:=@Nat.mul_comm
def ly:=@Nat.mul_le_mul_left
def Dr:=@Nat.mul_le_mul_right
def xw:=@Nat.mul_zero
def xx:=@Nat.not_lt
def kF:=@Nat.not_lt_zero
def xy:=@Nat.pow_le_pow_right
def xA:=@Nat.pow_succ
def eU:=@Nat.sub_self
def bh:=@Nat.zero_add
def bm:=@Nat.zero_le
def n7:=@Nat.zero_mul
def n8:=@Option.getD_some
def mK:=@Option.map_some
def kG:=@Prod.ext
def th:=@UInt8.lt_iff_toNat_lt
def gZ:=@UInt8.toNat_ofNat'
open Go.ChangeShapes Go.WideShapes Go.ChangeAt Go.RowKit
variable{P:Program}{W W':World}
theorem own:ownKnob prog.godebug=none:=by kernel_rfl
theorem laidOut:laidOutB prog=true:=by kernel_rfl
theorem AE{H:Type}{enc:TypeId×Value->H}(hl:laidOutB P=true)(hb:Below W.heap.size W W'):
  ∀(ts:List TypeId) (vs:List Value) (ds:List (DataW H)) (ps:List MemPlace),ts.all (λt=>P.readableRec t && decide (t<P.types.size))=true->
   DataW.TrodAll enc P W 0 (λ_=>true) true ts vs ds ps->(∀x∈ps,x.block<W.heap.size)->
   DataW.TrodAll enc P W' 0 (λb=>decide (b<W.heap.size)) true ts vs ds ps:=by
 intro ts
 induction ts with
 |nil=>
  intro vs ds ps _ h _;obtain⟨rfl,rfl,rfl⟩:=trodAll_nil h;exact trodAll_mk0
 |cons t ts ih=>
  intro vs ds ps ht h dV;obtain⟨v,vs',d,ds',p,q,rfl,rfl,rfl,h1,h2⟩:=trodAll_cons h;simp only[List.all_cons,Bool.and_eq_true,decide_eq_true_eq]at ht;obtain⟨⟨hr,hs⟩,ht'⟩:=ht;refine trodAll_cons_mk (Below.trod hl hr hs h1 hb λx hx=>dV x (List.mem_append_left _ hx)) (ih _ _ _ (by simpa using ht') h2 λx hx=>dV x (List.mem_append_right _ hx))
theorem Qn{H:Type}{enc:TypeId×Value->H}(hl:laidOutB P=true){f:Func}{s:ChangeSpec}{tb:TypeId}{args:Array Value}{ds gs:List (DataW H)}{before:List MemPlace}
 (hW:DataW.Whole enc P f.params.toList s.vars false W args.toList ds gs before)(hv:s.vars=[])
 (hp:f.params.toList.all (λt=>P.readableRec t && decide (t<P.types.size))=true)(hr:f.resultTypes= #[tb])(htb:P.underlying tb=some .bool)
 (hfn:s.fn H ds={results:=[.lit (.bool true)],args:=ds})(hb:Below W.heap.size W W'):
  s.post enc P f false true false false W args (.bool true) W':=by
 have hW':=hW;obtain⟨p,q,hA,hV,rfl,Qo,AF⟩:=hW;rw[hv]at hV;obtain⟨rfl,rfl⟩:=trodVars_none hV;have dV:=hW'.lt;refine⟨ds,[],_,[],p,[],hW',?_,?_,?_,hb.frame _,λh=>by cases h⟩
 .rw[List.append_nil,hfn,hr];exact trodAll_cons_mk (p':=[]) (shut_bool htb true) trodAll_mk0
 .rw[List.append_nil,hfn];exact AE hl hb _ _ _ _ hp hA λx hx=>by simpa using dV x (List.mem_append_left _ hx)
 .rw[hv,List.append_nil,hfn];exact rfl
open Go.RowKit
variable{B o g:Nat}{p a:Addr}{v:Value}{t' t:TypeId}{cs':Array Value}{w:World}{P:Program}{cur cs l:List Value}
def aE(w:World)(g:Nat)(t:TypeId)(cs:Array Value):Prop:= ∃lo hi,w.heap[g]?=some (.cells cs t (lo,hi))/\(lo=hi\/cs.size<=lo)
structure ag(S:List Nat)(w w':World):Prop where
 os:w'.os=w.os
 tape:w'.tape=w.tape
 output:w'.output=w.output
 size:w.heap.size<=w'.heap.size
 block:∀k,k<w.heap.size->k∉S->w'.heap[k]?=w.heap[k]?
section
variable{w w' w'':World}{g:Nat}{t:TypeId}{cs:Array Value}{S S':List Nat}
theorem ag.refl(S:List Nat)(w:World):ag S w w:=⟨rfl,rfl,rfl,Nat.le_refl _,λ_ _ _=>rfl⟩
theorem ag.aN(h:ag S w w')(k:ag S' w' w'')(hs:∀x∈S',x<w.heap.size->x∈S):ag S w w'':=
 ⟨k.os.trans h.os,k.tape.trans h.tape,k.output.trans h.output,Nat.le_trans h.size k.size,λb hb hn=>
  (k.block b (Nat.lt_of_lt_of_le hb h.size) (λhm=>hn (hs b hm hb))).trans (h.block b hb hn)⟩
theorem ag.trans(h:ag S w w')(k:ag S w' w''):ag S w w'':=h.aN k λ_ hx _=>hx
theorem ag.mono(h:ag S w w')(hs:∀x∈S,x<w.heap.size->x∈S'):ag S' w w':=
 ⟨h.os,h.tape,h.output,h.size,λb hb hn=>h.block b hb λhm=>hn (hs b hm hb)⟩
theorem ag.ai(h:Below w.heap.size w w'):ag S w w':=⟨h.os,h.tape,h.output,h.size,λb hb _=>h.block b hb⟩
theorem ag.below(h:ag S w w')(hs:∀x∈S,w.heap.size<=x):Below w.heap.size w w':=
 ⟨h.os,h.tape,h.output,h.size,λb hb=>h.block b hb λhm=>by have:=hs b hm;omega⟩
theorem ag.aO(h:ag S w w')(hB:B<=w.heap.size)(hs:∀x∈S,B<=x):Below B w w':=
 ⟨h.os,h.tape,h.output,h.size,λb hb=>h.block b (by omega) λhm=>by have:=hs b hm;omega⟩
theorem ag.dW(h:ag [] w w'):Below w.heap.size w w':=h.below (by simp)
theorem ag.drew(h:ag S w w'):ag S w w'.drew:=⟨h.os,h.tape,h.output,h.size,h.block⟩
theorem ag.drewN(h:ag S w w')(n:Nat):ag S w (w'.drewN n):=⟨h.os,h.tape,h.output,h.size,h.block⟩
theorem ag.alloc(h:ag S w w')(o:Obj):ag S w (w'.alloc o):=
 h.trans ⟨rfl,rfl,rfl,by simp,λb hb _=>Below.heap_alloc _ _ _ hb⟩
theorem ag.setCell(h:ag S w w')(hp:p.block<w.heap.size->p.block∈S)(v:Value):ag S w (w'.setCell p v):=
 ⟨h.os,h.tape,h.output,Nat.le_trans h.size (by simp[World.setCell]),λb hb hn=>
  (Below.heap_setCell _ _ _ _ (λe=>hn (by subst e;exact hp hb))).trans (h.block b hb hn)⟩
theorem ag.grown{row:Option Nat}(h:ag S w w')(hg:w'.grownBy w'' row)(hr:∀k,row=some k->k<w.heap.size->k∈S):ag S w w'':=
 ⟨hg.os.trans h.os,hg.tape.trans h.tape,hg.output.trans h.output,Nat.le_trans h.size hg.size,λb hb hn=>
  (hg.block b (Nat.lt_of_lt_of_le hb h.size) (λe=>hn (hr b e.symm hb))).trans (h.block b hb hn)⟩
theorem ag.cell(h:ag S w w')(hp:p.block<w.heap.size)(hn:p.block∉S):w'.cell? p=w.cell? p:=World.cell?_of_block (w:=w) (h.block p.block hp hn)
theorem ag.frozen(h:ag S w w')(hp:p.block<w.heap.size)(hn:p.block∉S):w'.frozen? p=w.frozen? p:=World.frozen?_of_block (w:=w) (h.block p.block hp hn)
theorem aE.of_eq(h:w.heap[g]?=some (.cells cs t (0,0))):aE w g t cs:=⟨0,0,h,.inl rfl⟩
theorem aE.of_same(h:aE w g t cs)(e:w'.heap[g]?=w.heap[g]?):aE w' g t cs:=by
 obtain⟨lo,hi,h1,h2⟩:=h;exact⟨lo,hi,e.trans h1,h2⟩
theorem aE.lt(h:aE w g t cs):g<w.heap.size:=by
 obtain⟨lo,hi,h,_⟩:=h
 rcases Nat.lt_or_ge g w.heap.size with dV|Li
 .exact dV
 .rw[Array.getElem?_eq_none Li]at h;cases h
theorem aE.cell(h:aE w g t cs)(i:Nat):w.cell? ⟨g,i,none⟩=cs[i]?:=by
 obtain⟨lo,hi,h,_⟩:=h;exact cell_of_row w g i cs t (lo,hi) h
theorem aE.ab(h:aE w g t cs){i:Nat}(hv:cs[i]?=some v):w.cell? ⟨g,i,none⟩=some v:=(h.cell i).trans hv
theorem aE.frozen(h:aE w g t cs)(i:Nat)(hi:i<cs.size):w.frozen? ⟨g,i,none⟩=false:=by
 obtain⟨lo,n9,h,h2⟩:=h;simp only[World.frozen?,h]
 rcases h2 with rfl|h2
 .simp
 .simp;omega
theorem aE.new(w:World)(t:TypeId)(cs:Array Value):aE (w.alloc (.cells cs t)) w.heap.size t cs:= .of_eq (heap_alloc_new w _)
theorem aE.drew(h:aE w g t cs):aE w.drew g t cs:=h
theorem aE.drewN(h:aE w g t cs)(n:Nat):aE (w.drewN n) g t cs:=h
theorem aE.alloc(h:aE w g t cs)(o:Obj):aE (w.alloc o) g t cs:=h.of_same (Below.heap_alloc w o g h.lt)
theorem aE.bG(h:aE w g t cs)(i:Nat)(u:Value):aE (w.setCell ⟨g,i,none⟩ u) g t (cs.setIfInBounds i u):=by
 obtain⟨lo,hi,h,h2⟩:=h;exact⟨lo,hi,by simp[World.setCell,Array.getElem?_modify,h],by simpa using h2⟩
theorem aE.aU(h:aE w g t cs)(hp:g≠p.block)(u:Value):aE (w.setCell p u) g t cs:=h.of_same (Below.heap_setCell w p u g hp)
theorem aE.below(h:aE w g t cs)(hb:Below B w w')(hg:g<B):aE w' g t cs:=h.of_same (hb.block g hg)
theorem aE.only(h:aE w g t cs)(hb:ag S w w')(hg:g∉S):aE w' g t cs:=h.of_same (hb.block g h.lt hg)
theorem aE.inj(h:aE w g t cs)(h':aE w g t' cs'):t=t'/\cs=cs':=by
 obtain⟨lo,hi,h,_⟩:=h;obtain⟨lo',n9,h',_⟩:=h';rw[h]at h';injection h' with h'
 injection h' with e1 e2
 exact⟨e2,e1⟩
theorem aE.lI{g':Nat}(h:aE w g t cs)(h':aE w g' t' cs')(eV:t≠t'):g≠g':=by
 rintro rfl;exact eV (h.inj h').1
end
theorem cD{w':World}(h:Below B w w')(n:Nat):Below B w (w'.drewN n):=⟨h.os,h.tape,h.output,h.size,h.block⟩
theorem bu(s:ByteArray):s.toList=s.data.toList:=ByteArray.toList_eq s
theorem rS(l:List UInt8)(s:ByteArray):(⟨l.toArray⟩++s:ByteArray)=⟨(l++s.data.toList).toArray⟩:=by
 apply ByteArray.ext;rw[ByteArray.data_append];simp
theorem au{a b:World}(h:Below w.heap.size w a)(k:Below a.heap.size a b):Below w.heap.size w b:=h.trans (k.mono h.size)
theorem lz(a:Addr)(n:Nat):(a.add n).block=a.block:=by unfold Addr.add;split<;>rfl
theorem dN(h:w.cell? a=some v):a.block<w.heap.size:=by
 rcases Nat.lt_or_ge a.block w.heap.size with dV|Li
 .exact dV
 .simp[World.cell?,Array.getElem?_eq_none Li]at h
theorem Lj{k:Nat}(h:w.cell? (a.add k)=some v):a.block<w.heap.size:=by
 rcases Nat.lt_or_ge a.block w.heap.size with dV|Li
 .exact dV
 .simp[World.cell?,lz,Array.getElem?_eq_none Li]at h
def bv(b:UInt8):Value:= .int .u8 (b.toNat:Int)
def dh(l:List UInt8):List Value:=l.map bv
@[simp] theorem jk(l:List UInt8):(dh l).length=l.length:=by simp[dh]
theorem cw(l m:List UInt8):dh (l++m)=dh l++dh m:=by simp[dh]
theorem xC(l:List UInt8)(i:Nat):(dh l)[i]?=l[i]?.map bv:=by simp[dh]
theorem qF(l:List UInt8):∀v∈dh l,v.oneCell'=true:=by
 intro v hv;obtain⟨b,_,rfl⟩:=List.mem_map.1 hv;rfl
theorem foldl_push(l:List UInt8):∀s:ByteArray,(l.map λb=>(b.toNat:Int)).foldl (λr n=>r.push (UInt8.ofNat n.toNat)) s=⟨(s.data.toList++l).toArray⟩:=by
 induction l with
 |nil=>intro s;cases s;simp
 |cons b l ih=>
  intro s;simp only[List.map_cons,List.foldl_cons];rw[ih]
  congr 1
  simp[ByteArray.push]
theorem bZ(w:World)(src dst e:TypeId)(hs:P.underlying src=some (.slice e))(he:P.underlying e=some (.int .u8))(hd:P.underlying dst=some .string)
 (a:Addr)(len cap:Nat)(l:List UInt8)(hl:l.length=len)(hc:∀j v,(dh l)[j]?=some v->w.cell? (a.add j)=some v):
  (convert src dst (.slice (some a) len cap)).run P w=.ok (.string ⟨l.toArray⟩) w:=by
 subst hl;rw[run_convert_bytes_string w src dst e (some a) l.length cap hs he hd];have h:=run_loadCells_list (P:=P) w a (dh l) hc;rw[jk]at h;have e2:dh l=(l.map λb=>(b.toNat:Int)).map (Value.int .u8):=by simp[dh,bv]
 rw[e2]at h;rw[run_bytesToString w a l.length cap _ h,foldl_push];simp
def putAt(cur:List Value)(o:Nat)(cs:List Value):List Value:=cur.take o++cs++cur.drop (o+cs.length)
theorem ux(cur:List Value)(o:Nat):putAt cur o []=cur:=by simp[putAt]
theorem jP(h:o+cs.length<=cur.length):(putAt cur o cs).length=cur.length:=by
 simp[putAt];omega
theorem gM(z:Value)(n:Nat):madeCells #[z] n=(List.replicate n z).toArray:=by
 apply Array.ext
 .simp[size_madeCells]
 .intro i h1 h2;simp[madeCells,Nat.mod_one]
theorem IG(h:o<cur.length):putAt (cur.set o v) (o+1) cs=putAt cur o (v::cs):=by
 unfold putAt;rw[List.length_cons,List.take_succ_eq_append_getElem (by simpa using h),List.take_set_of_le (Nat.le_refl _),List.getElem_set_self,List.drop_set_of_lt (by omega)];simp[Nat.add_assoc,Nat.add_comm 1]
theorem aE.setCells :∀(cs:List Value) {w:World} {cur:List Value} (o:Nat),aE w g t cur.toArray->o+cs.length<=cur.length->aE (w.setCells g o cs) g t (putAt cur o cs).toArray
 |[],w,cur,o,h,_=>by rw[ux];exact h
 |v::cs,w,cur,o,h,hl=>by
  simp only[List.length_cons]at hl;have h1:=h.bG o v;rw[List.setIfInBounds_toArray]at h1;have h2:=aE.setCells cs (o+1) h1 (by rw[List.length_set];omega);rw[IG (by omega)]at h2;exact h2
theorem ag.setCells{S:List Nat} :∀(cs:List Value) {w':World} (o:Nat),ag S w w'->(g<w.heap.size->g∈S)->ag S w (w'.setCells g o cs)
 |[],_,_,h,_=>h
 |v::cs,_,o,h,hg=>ag.setCells cs (o+1) (h.setCell (p:=⟨g,o,none⟩) hg v) hg
theorem yd(B:aE w g t cur.toArray)(dT sT ty elem:TypeId)(o tm ye:Nat)(a:Addr)(II sCap:Nat)(cs:List Value)
 (hu:P.underlying dT=some (.slice elem))(hs:(P.info? elem).map (·.size)=some 1)(hn:cs.length=Nat.min II tm)
 (Qp:∀j v,cs[j]?=some v->w.cell? (a.add j)=some v)(rn:o+cs.length<=cur.length)(h1:∀v∈cs,v.oneCell'=true):
  ∃w',(Builtin.copy_ #[dT,sT] ty #[.slice (some ⟨g,o,none⟩) tm ye,.slice (some a) II sCap]).run P w=.ok (goInt cs.length) w'/\aE w' g t (putAt cur o cs).toArray/\ag [g] w w':=
 ⟨_,run_copy_cells (P:=P) w dT sT ty elem g o tm ye a II sCap cs hu hs hn Qp (λj hj=>by rw[B.cell];simp;omega) (λj hj=>B.frozen _ (by simp;omega)) h1,
  B.setCells cs o rn,(ag.refl _ _).setCells cs o (by simp)⟩
theorem mL(B:aE w g t cur.toArray)(dT sT ty elem:TypeId)(o tm ye:Nat)(s:ByteArray)(n:Nat)
 (hu:P.underlying dT=some (.slice elem))(hs:(P.info? elem).map (·.size)=some 1)(hn:n=Nat.min s.size tm)(rn:o+n<=cur.length):
  ∃w',(Builtin.copy_ #[dT,sT] ty #[.slice (some ⟨g,o,none⟩) tm ye,.string s]).run P w=.ok (goInt n) w'/\aE w' g t (putAt cur o (dh (s.data.toList.take n))).toArray/\ag [g] w w':=by
 have hl:(dh (s.data.toList.take n)).length=n:=by
  have:n<=s.size:=by rw[hn];exact Nat.min_le_left _ _
  simp;omega
 refine⟨w.setCells g o (dh (s.data.toList.take n)),?_,B.setCells _ o (by omega),(ag.refl _ _).setCells _ o (by simp)⟩;have ui:=run_storeCells_cells (P:=P) g o (dh (s.data.toList.take n)) 0 w (λj hj=>by rw[B.cell];simp;omega) (λj hj=>B.frozen _ (by simp;omega)) (qF _);have e:List.take n (List.map (λb:UInt8=>Value.int .u8 (b.toNat:Int)) s.data.toList)=dh (s.data.toList.take n):=by
  rw[dh,List.map_take];rfl
 cases hq:P.info? elem with
 |none=>simp[hq]at hs
 |some i=>
  simp only[Nat.add_zero]at ui;simp[Builtin.copy_,run_underlying hu,Builtin.lenOf,Builtin.firstCells,sizeOf,typeInfo,hq,<-hn];rw[e,ui];simp[Result.andThen]
theorem bn(B:aE w g t l.toArray)(o:Nat)(cs:List Value)(h:∀j v,cs[j]?=some v->l[o+j]?=some v):
  ∀j v,cs[j]?=some v->w.cell? ((⟨g,o,none⟩:Addr).add j)=some v:=by
 intro j v hv;have e:(⟨g,o,none⟩:Addr).add j=⟨g,o+j,none⟩:=by unfold Addr.add;split<;>simp_all
 rw[e,B.cell];simpa using h j v hv
def aK(w:World)(e:TypeId)(size:Nat)(v:Value)(n:Nat)(l:List Value):Prop:=
 l.length=n*size/\((v=.slice none 0 0/\n=0)\/
  ∃g cap rest,v=.slice (some ⟨g,0,none⟩) n cap/\aE w g e (l++rest).toArray/\l.length+rest.length=cap*size/\cap<=maxLen)
def ah:Value->List Nat
 |.slice (some a) _ _=>[a.block]
 |_=>[]
section
variable{w w':World}{e:TypeId}{size:Nat}{v:Value}{n:Nat}{l:List Value}{S:List Nat}
theorem aK.nil(w:World)(e:TypeId)(size:Nat):aK w e size (.slice none 0 0) 0 []:=⟨by simp,.inl ⟨rfl,rfl⟩⟩
theorem aK.only(h:aK w e size v n l)(ho:ag S w w')(hd:∀g∈ah v,g∉S):aK w' e size v n l:=by
 refine⟨h.1,h.2.imp id ?_⟩;rintro⟨g,cap,rest,rfl,B,hc,hm⟩;exact⟨g,cap,rest,rfl,B.only ho (hd g (by simp[ah])),hc,hm⟩
theorem aK.below(h:aK w e size v n l)(hb:Below w.heap.size w w'):aK w' e size v n l:=h.only (S:=[]) (.ai hb) (by simp)
theorem aK.drew(h:aK w e size v n l):aK w.drew e size v n l:=h
theorem aK.alloc(h:aK w e size v n l)(o:Obj):aK (w.alloc o) e size v n l:=h.only (S:=[]) ((ag.refl _ _).alloc o) (by simp)
theorem aK.lt(h:aK w e size v n l):∀g∈ah v,g<w.heap.size:=by
 rcases h.2 with⟨rfl,_⟩|⟨g,cap,rest,rfl,B,_⟩
 .simp[ah]
 .intro x hx;simp[ah]at hx;subst hx;exact B.lt
theorem aK.yf{base:Nat}(h:w.ownsRow base e size v n l):aK w e size v n l:=by
 refine⟨h.1,h.2.imp id ?_⟩;rintro⟨g,cap,cur,rfl,_,hh,Ic,hm,hs,ht⟩;have mM:cur.toList.length=cap*size:=by simpa using hs
 refine⟨g,cap,cur.toList.drop (n*size),rfl,?_,?_,hm⟩
 .rw[<-ht,List.take_append_drop];exact .of_eq hh
 .rw[h.1,List.length_drop,mM];have:n*size<=cap*size:=Nat.mul_le_mul_right _ Ic;omega
theorem aK.form(h:aK w e size v n l)(hn:0<n)(hs:0<size):∃g cap rest,v=.slice (some ⟨g,0,none⟩) n cap/\aE w g e (l++rest).toArray/\n<=cap/\l.length+rest.length=cap*size:=by
 rcases h.2 with⟨_,h0⟩|⟨g,cap,rest,rfl,B,hc,_⟩
 .omega
 .refine⟨g,cap,rest,rfl,B,?_,hc⟩;have h1:=h.1;have:n*size<=cap*size:=by omega
  exact Nat.le_of_mul_le_mul_right this hs
theorem aK.rp{n' cap:Nat}(h:aK w e size (.slice (some ⟨g,0,none⟩) n' cap) n l):∃rest,aE w g e (l++rest).toArray/\l.length+rest.length=cap*size/\n'=n/\cap<=maxLen:=by
 rcases h.2 with⟨h0,_⟩|⟨g',Ds,rest,hv,B,hc,hm⟩
 .simp at h0
 .simp only[Value.slice.injEq,Option.some.injEq,Addr.mk.injEq,and_true]at hv;obtain⟨rfl,rfl,rfl⟩:=hv;exact⟨rest,B,hc,rfl,hm⟩
end
theorem di{e:TypeId}{size:Nat}{n:Nat}(h:aK w e size v n l)
 (t ty:TypeId)(i:TypeInfo)(z:Value)(bytes:Nat)(ht:P.underlying t=some (.slice e))(hi:P.info? e=some i)(hz:i.zero=some z)
 (yg:i.size=size)(hby:i.bytes=bytes)(hzs:z.cells.size=size)(mM:0<size)
 (a:Addr)(m c:Nat)(news:List Value)(hl:news.length=m*size)(Bi:∀j u,news[j]?=some u->w.cell? (a.add j)=some u)(h1:∀u∈news,u.oneCell'=true)
 (Dt:n+m<=maxLen)(IJ:(n+m)*bytes<=140737488355328):
  ∃v' w',(Builtin.append_ #[t,t] ty #[v,.slice (some a) m c]).run P w=.ok v' w'/\aK w' e size v' (n+m) (l++news)/\ag (ah v) w w'/\(∀g∈ah v',g∈ah v\/w.heap.size<=g):=by
 rcases h.2 with⟨rfl,rfl⟩|⟨g,cap,rest,rfl,B,hc,hm⟩
 .have wR:l=[]:=List.eq_nil_of_length_eq_zero (by simpa using h.1);subst wR;obtain⟨v',w',hr,h2,h3,_⟩:=run_append_own (P:=P) w w.heap.size t ty e i z size bytes ht hi hz yg hby hzs mM (.slice none 0 0) 0 [] (World.ownsRow_nil _ _ _ _) a m c news hl Bi h1 Dt IJ (Nat.le_refl _);refine⟨v',w',hr,.yf h2,(ag.refl _ _).grown h3 (by simp[Value.ownBlock]),?_⟩;intro g hg
  rcases h2.2 with⟨rfl,_⟩|⟨g',cap,cur,rfl,hb,_⟩
  .simp[ah]at hg
  .simp[ah]at hg;subst hg;exact .inr hb
 .by_cases hr:n+m<=cap
  .subst yg;have hmul:(n+m)*i.size<=cap*i.size:=Nat.mul_le_mul_right _ hr;rw[Nat.add_mul]at hmul;have hh:=h.1;have Du:=run_append_room_cells (P:=P) w t ty e i ht hi g 0 n cap a m c news hl Bi h1 hr (λj hj=>by rw[B.cell];simp;omega) (λj hj=>B.frozen _ (by simp;omega));refine⟨_,_,Du,⟨by simp[hh,hl,Nat.add_mul],.inr ⟨g,cap,rest.drop news.length,rfl,?_,by simp;omega,hm⟩⟩,(ag.refl _ _).setCells news _ (by simp[ah]),by simp[ah]⟩
   have B2:=B.setCells news (0+n*i.size) (by simp;omega);have e2:putAt (l++rest) (0+n*i.size) news=l++news++rest.drop news.length:=by
    unfold putAt;rw[Nat.zero_add,<-hh,List.take_left,<-List.drop_drop,List.drop_left]
   rwa [e2]at B2
  .obtain⟨v',w',Du,h2,h3⟩:=run_append_arg_grows (P:=P) w t ty e i z size bytes ht hi hz yg hby hzs mM ⟨g,0,none⟩ n cap l h.1 (bn B 0 l (by intro j u hu;rw[Nat.zero_add];exact List.getElem?_append_left (List.getElem?_eq_some_iff.1 hu).1▸hu)) a m c news hl Bi (by omega) Dt IJ;refine⟨v',w',Du,.yf h2,(ag.refl _ _).grown h3 (by simp),?_⟩;intro g' hg
   rcases h2.2 with⟨rfl,_⟩|⟨g'',Ds,cur,rfl,hb,_⟩
   .simp[ah]at hg
   .simp[ah]at hg;subst hg;exact .inr hb
theorem wS(w:World)(src dst e:TypeId)(s:ByteArray)(hs:P.underlying src=some .string)(hd:P.underlying dst=some (.slice e))(he:P.underlying e=some (.int .u8))(hm:s.size<=maxLen):
  ∃cap w',(convert src dst (.string s)).run P w=.ok (.slice (some ⟨w.heap.size,0,none⟩) s.size cap) w'/\aK w' e 1 (.slice (some ⟨w.heap.size,0,none⟩) s.size cap) s.size (dh s.data.toList)/\Below w.heap.size w w':=by
 refine⟨_,_,run_bytes_of_string (P:=P) w src dst e s hs hd he,⟨by simp,.inr ⟨w.heap.size,_,List.replicate (grownCap w s.size 0 e-s.size) (.int .u8 0),rfl,?_,?_,grownCap_le_maxLen _ _ _ _ hm⟩⟩,?_⟩
 .have e1:bytesRow s (grownCap w s.size 0 e)=(dh s.data.toList++List.replicate (grownCap w s.size 0 e-s.size) (Value.int .u8 0)).toArray:=by
   apply Array.toList_inj.1;simp[bytesRow,dh];exact λ_ _=>rfl
  rw[e1];exact⟨_,_,heap_alloc_new w.drew _,.inr (Nat.le_refl _)⟩
 .have:=grownCap_ge w s.size 0 e;simp;omega
 .exact⟨rfl,rfl,rfl,by simp,λk hk=>Below.heap_alloc w.drew _ k hk⟩
variable{w:World}{e:TypeId}{v:Value}{n:Nat}{l:List Value}
noncomputable def df(P:Program)(T ty:TypeId)(w:World)(s x:Value):Result Value:=(Builtin.append_ #[T,T] ty #[s,x]).run P w
theorem bq(P:Program)(ρ:Operand->Value)(dst:Option Tmp)(s x:Operand)(T t:TypeId)(p:String)(af:Array Edge)(g:Option (Nat×Bool))(w:World):
  (execOp ρ {dst:=dst,op:= .call {callee:= .builtin .append,args:= #[s,x],argTypes:= #[T,T]},type:=t,pos:=p,after:=af,guard:=g}).run P w=(df P T t w (ρ s) (ρ x)).andThen λv w'=> .ok (.value v) w':=by
 simp[execOp,resolve,invoke,builtin,df]
theorem cU{P:Program}(S:aK w e 1 v n l)
 (T ty:TypeId)(z:Value)(bytes:Nat)(ht:P.underlying T=some (.slice e))(l6:(P.info? e).map (λi=>(i.zero,i.size,i.bytes))=some (some z,1,bytes))(hz:z.cells.size=1)
 (x:Value)(hx:x.oneCell'=true)(Dt:n+1<=maxLen)(hb:(n+1)*bytes<=140737488355328):
  ∃v' w',df P T ty (w.alloc (.cells #[x] e)) v (.slice (some ⟨w.heap.size,0,none⟩) 1 1)= .ok v' w'/\aK w' e 1 v' (n+1) (l++[x])/\ag (ah v) w w'/\(∀g∈ah v',g∈ah v\/w.heap.size<=g):=by
 obtain⟨i0,hi,ke,iX,jF⟩:=info_parts l6;obtain⟨v',w',h1,h2,h3,h4⟩:=di (P:=P) (S.alloc (.cells #[x] e)) T ty i0 z bytes ht hi ke iX jF hz (by omega)
  ⟨w.heap.size,0,none⟩ 1 1 [x] rfl (bn (l:=[x]) (aE.new w e #[x]) 0 _ (by simp)) (by intro u hu;simp at hu;subst hu;exact hx) Dt hb
 exact⟨v',w',h1,h2,((ag.refl _ _).alloc _).aN h3 (λx hx _=>hx),λg hg=>(h4 g hg).imp id (λh=>by simp at h;omega)⟩
theorem ao{size:Nat}(S:aK w e size v n l):∃A c,v=.slice A n c:=by
 rcases S.2 with⟨rfl,rfl⟩|⟨g,cap,rest,rfl,_⟩
 .exact⟨none,0,rfl⟩
 .exact⟨_,cap,rfl⟩
variable{P:Program}{i fuel d n:Nat}{v:Value}{w:World}{e:TypeId}
theorem pa{α:Type}(l:List α)(i:Nat)(a:α):l.toArray.setIfInBounds i a=(l.set i a).toArray:=by simp
theorem pb{α:Type}(a b:α)(l:List α):(a::l).set 0 b=b::l:=rfl
theorem pc{α:Type}(a b:α)(l:List α)(n:Nat):(a::l).set (n+1) b=a::l.set n b:=rfl
theorem tkf{ops:Array Oper}{Q:Exit->Act->World->Prop}{md:Region.Mode}{S:World->Prop}{oi:Oper}{bI:Array Bool}{a:Act}(hi:ops[i]?=some oi)
 (hb:(Region.noSelect ops && (Region.free md ops bI i && ((Region.ready md ops bI).contains i && Region.wanted oi (yielded ops a.tmps))))=true)
 (hQ:∀c a w,Q (.panic c) (a.put oi.dst v) w->Q (.panic c) a w)(hS:S w)(y:∀w,S w->(execOp a.eval oi).run P w=.ok (.value v) w)
 (h:wpAnyH P md ops Q S fuel (bI.setIfInBounds i true) (a.put oi.dst v) w):wpAnyH P md ops Q S (fuel+1) bI a w:=by
 simp only[Bool.and_eq_true]at hb;exact wpAnyH_take hi hb.1 hb.2.1 hb.2.2.1 hQ (Or.inl ⟨hb.2.2.2,y⟩) hS h
def Zpl(_:List (Nat×Nat))(g:Prop):Prop:=g
theorem cV(l:List (Nat×Nat)){g:Prop}(h:Zpl l g):g:=h
theorem zpe{g:Prop}(h:g):Zpl [] g:=h
theorem ztp{ops:Array Oper}{Q:Exit->Act->World->Prop}{md:Region.Mode}{S:World->Prop}{l:List (Nat×Nat)}{x1 x2 x3 x4 x5}{bI:Array Bool}{a:Act}(hi:ops[i]?=some ⟨some d,x1,x2,x3,x4,x5⟩)
 (hb:(Region.noSelect ops && (Region.free md ops bI i && ((Region.ready md ops bI).contains i && Region.wanted ⟨some d,x1,x2,x3,x4,x5⟩ (yielded ops a.tmps))))=true)
 (hQ:∀c a w,Q (.panic c) (a.put (some d) v) w->Q (.panic c) a w)(hS:S w)(y:∀w,S w->(execOp a.eval ⟨some d,x1,x2,x3,x4,x5⟩).run P w=.ok (.value v) w)
 (h:Zpl l (wpAnyH P md ops Q S fuel (bI.setIfInBounds i true) (a.put (some d) v) w)):Zpl ((i,d)::l) (wpAnyH P md ops Q S (fuel+1) bI a w):=tkf hi hb hQ hS y h
theorem zt{ops:Array Oper}{Q:Exit->Act->World->Prop}{md:Region.Mode}{S:World->Prop}{l:List (Nat×Nat)}{x1 x2 x3 x4 x5}{bI:Array Bool}{a:Act} 
 (h:Zpl l (wpAnyH P md ops Q S fuel (bI.setIfInBounds i true) (a.put (some d) v) w))(hi:ops[i]?=some ⟨some d,x1,x2,x3,x4,x5⟩:=by rfl)
 (hb:(Region.noSelect ops && (Region.free md ops bI i && ((Region.ready md ops bI).contains i && Region.wanted ⟨some d,x1,x2,x3,x4,x5⟩ (yielded ops a.tmps))))=true:=by kernel_rfl)
 (hQ:∀c a w,Q (.panic c) (a.put (some d) v) w->Q (.panic c) a w:=by exact λ_ _ _ h=>h)(hS:S w:=by assumption)
 (y:∀w,S w->(execOp a.eval ⟨some d,x1,x2,x3,x4,x5⟩).run P w=.ok (.value v) w:=by intro w hS;(try dsimp only at hS);go_simp;try with_reducible rfl):Zpl ((i,d)::l) (wpAnyH P md ops Q S (fuel+1) bI a w):=ztp hi hb hQ hS y h
theorem tkd{ops:Array Oper}{Q:Exit->Act->World->Prop}{md:Region.Mode}{S:World->Prop}{oi:Oper}{bI:Array Bool}{a:Act} 
 (hQ:∀c a w,Q (.panic c) (a.put oi.dst v) w->Q (.panic c) a w)(h:wpAnyH P md ops Q S fuel (bI.setIfInBounds i true) (a.put oi.dst v) w)(hi:ops[i]?=some oi:=by rfl)
 (hb:(Region.noSelect ops && (Region.free md ops bI i && ((Region.ready md ops bI).contains i && Region.wanted oi (yielded ops a.tmps))))=true:=by kernel_rfl)
 (hS:S w:=by assumption)(y:∀w,S w->(execOp a.eval oi).run P w=.ok (.value v) w:=by intro w hS;(try dsimp only at hS);go_simp;try with_reducible rfl):wpAnyH P md ops Q S (fuel+1) bI a w:=tkf hi hb hQ hS y h
theorem rd1{ops:Array Oper}{Q:Exit->Act->World->Prop}{md:Region.Mode}{S:World->Prop}{bI:Array Bool}{a:Act}{o:Oper}
 (h:∀K':Act->World->Prop,Shut (∀a w,S w->(S w->wpAnyH P md ops Q S fuel (bI.setIfInBounds i true) a w)->K' a w)->if Region.wanted o (yielded ops a.tmps)=true then Oper.wp P o a w K' Q else K' (a.put o.dst undef) w)
 (hr:Region.ready md ops bI=[i]:=by kernel_rfl)(ho:ops[i]?=some o:=by rfl):wpAnyH P md ops Q S (fuel+1) bI a w:=wpAnyH_ready hr (by simp) (AllReadyH.cons ho h AllReadyH.nil)
theorem tks{ops:Array Oper}{Q:Exit->Act->World->Prop}{md:Region.Mode}{S:World->Prop}{oi:Oper}{bI:Array Bool}{a:Act}(hi:ops[i]?=some oi)
 (hb:(Region.noSelect ops && (Region.free md ops bI i && ((Region.ready md ops bI).contains i && !(Region.wanted oi (yielded ops a.tmps)))))=true)
 (hQ:∀c a w,Q (.panic c) (a.put oi.dst undef) w->Q (.panic c) a w)(hS:S w)
 (h:wpAnyH P md ops Q S fuel (bI.setIfInBounds i true) (a.put oi.dst undef) w):wpAnyH P md ops Q S (fuel+1) bI a w:=by
 simp only[Bool.and_eq_true,Bool.not_eq_true']at hb;exact wpAnyH_take hi hb.1 hb.2.1 hb.2.2.1 hQ (Or.inr ⟨hb.2.2.2,rfl⟩) hS h
theorem Qq{α:Type}(l:List α)(i:Nat)(a:α):l.toArray.setIfInBounds i a=(l.set i a).toArray:=pa l i a
theorem Qr{α:Type}(a b:α)(l:List α):(a::l).set 0 b=b::l:=rfl
theorem Qs{α:Type}(a b:α)(l:List α)(n:Nat):(a::l).set (n+1) b=a::l.set n b:=rfl
theorem bj{ops:Array Oper}{Q:Exit->Act->World->Prop}{md:Region.Mode}{S:World->Prop}{l:List (Nat×Nat)}{x1 x2 x3 x4 x5}{bI:Array Bool}{a a':Act} 
 (h:Zpl l (wpAnyH P md ops Q S fuel (bI.setIfInBounds i true) a' w))(hi:ops[i]?=some ⟨some d,x1,x2,x3,x4,x5⟩:=by rfl)
 (hb:(Region.noSelect ops && (Region.free md ops bI i && ((Region.ready md ops bI).contains i && Region.wanted ⟨some d,x1,x2,x3,x4,x5⟩ (yielded ops a.tmps))))=true:=by kernel_rfl)
 (hQ:∀c a w,Q (.panic c) (a.put (some d) v) w->Q (.panic c) a w:=by exact λ_ _ _ h=>h)(hS:S w:=by assumption)
 (y:∀w,S w->(execOp a.eval ⟨some d,x1,x2,x3,x4,x5⟩).run P w=.ok (.value v) w:=by intro w hS;(try dsimp only at hS);go_simp;try with_reducible rfl)
 (ha:a.put (some d) v=a':=by simp only[Act.put,Qq,Qr,Qs];exact rfl):Zpl ((i,d)::l) (wpAnyH P md ops Q S (fuel+1) bI a w):=ztp hi hb hQ hS y (ha▸h)
theorem zzqb{ops:Array Oper}{Q:Exit->Act->World->Prop}{md:Region.Mode}{S:World->Prop}(i d:Nat){x1 x2 x3 x4 x5}{bI:Array Bool}{a a':Act} 
 (hQ:∀c a w,Q (.panic c) (a.put (some d) v) w->Q (.panic c) a w)(h:wpAnyH P md ops Q S fuel (bI.setIfInBounds i true) a' w)(hi:ops[i]?=some ⟨some d,x1,x2,x3,x4,x5⟩:=by rfl)
 (hb:(Region.noSelect ops && (Region.free md ops bI i && ((Region.ready md ops bI).contains i && Region.wanted ⟨some d,x1,x2,x3,x4,x5⟩ (yielded ops a.tmps))))=true:=by kernel_rfl)
 (hS:S w:=by assumption)(y:∀w,S w->(execOp a.eval ⟨some d,x1,x2,x3,x4,x5⟩).run P w=.ok (.value v) w:=by intro w hS;(try dsimp only at hS);go_simp;try with_reducible rfl)
 (ha:a.put (some d) v=a':=by simp only[Act.put,Qq,Qr,Qs];exact rfl):wpAnyH P md ops Q S (fuel+1) bI a w:=tkf hi hb hQ hS y (ha▸h)
theorem cm{ops:Array Oper}{Q:Exit->Act->World->Prop}{md:Region.Mode}{S:World->Prop}(i d:Nat){x1 x2 x3 x4 x5}{bI:Array Bool}{a a':Act} 
 (h:wpAnyH P md ops Q S fuel (bI.setIfInBounds i true) a' w)(hi:ops[i]?=some ⟨some d,x1,x2,x3,x4,x5⟩:=by rfl)
 (hb:(Region.noSelect ops && (Region.free md ops bI i && ((Region.ready md ops bI).contains i && !(Region.wanted ⟨some d,x1,x2,x3,x4,x5⟩ (yielded ops a.tmps)))))=true:=by kernel_rfl)
 (hQ:∀c a w,Q (.panic c) (a.put (some d) undef) w->Q (.panic c) a w:=by exact λ_ _ _ h=>h)(hS:S w:=by assumption)
 (ha:a.put (some d) undef=a':=by simp only[Act.put,Qq,Qr,Qs];exact rfl):wpAnyH P md ops Q S (fuel+1) bI a w:=tks hi hb hQ hS (ha▸h)
theorem dn{ops:Array Oper}{Q:Exit->Act->World->Prop}{md:Region.Mode}{S:World->Prop}{bI:Array Bool}{a:Act}(i d:Nat){x1 x2 x3 x4 x5}
 (h:∀K':Act->World->Prop,Shut (∀a w,S w->(S w->wpAnyH P md ops Q S fuel (bI.setIfInBounds i true) a w)->K' a w)->if Region.wanted ⟨some d,x1,x2,x3,x4,x5⟩ (yielded ops a.tmps)=true then Oper.wp P ⟨some d,x1,x2,x3,x4,x5⟩ a w K' Q else K' (a.put (some d) undef) w)
 (hr:Region.ready md ops bI=[i]:=by kernel_rfl)(ho:ops[i]?=some ⟨some d,x1,x2,x3,x4,x5⟩:=by rfl):wpAnyH P md ops Q S (fuel+1) bI a w:=wpAnyH_ready hr (by simp) (AllReadyH.cons ho h AllReadyH.nil)
theorem mW{ops:Array Oper}{Q:Exit->Act->World->Prop}{md:Region.Mode}{S:World->Prop}{bI:Array Bool}{a:Act}(i:Nat){x1 x2 x3 x4 x5}
 (h:∀K':Act->World->Prop,Shut (∀a w,S w->(S w->wpAnyH P md ops Q S fuel (bI.setIfInBounds i true) a w)->K' a w)->if Region.wanted ⟨none,x1,x2,x3,x4,x5⟩ (yielded ops a.tmps)=true then Oper.wp P ⟨none,x1,x2,x3,x4,x5⟩ a w K' Q else K' (a.put none undef) w)
 (hr:Region.ready md ops bI=[i]:=by kernel_rfl)(ho:ops[i]?=some ⟨none,x1,x2,x3,x4,x5⟩:=by rfl):wpAnyH P md ops Q S (fuel+1) bI a w:=wpAnyH_ready hr (by simp) (AllReadyH.cons ho h AllReadyH.nil)
theorem mX{ops:Array Oper}{Q:Exit->Act->World->Prop}{md:Region.Mode}{S:World->Prop}(i d:Nat){x1 x2 x3 x4 x5}(v:Value){bI:Array Bool}{a a':Act} 
 (y:∀w,S w->(execOp a.eval ⟨some d,x1,x2,x3,x4,x5⟩).run P w=.ok (.value v) w)(h:wpAnyH P md ops Q S fuel (bI.setIfInBounds i true) a' w)(hi:ops[i]?=some ⟨some d,x1,x2,x3,x4,x5⟩:=by rfl)
 (hb:(Region.noSelect ops && (Region.free md ops bI i && ((Region.ready md ops bI).contains i && Region.wanted ⟨some d,x1,x2,x3,x4,x5⟩ (yielded ops a.tmps))))=true:=by kernel_rfl)
 (hQ:∀c a w,Q (.panic c) (a.put (some d) v) w->Q (.panic c) a w:=by exact λ_ _ _ h=>h)(hS:S w:=by assumption)
 (ha:a.put (some d) v=a':=by simp only[Act.put,Qq,Qr,Qs];exact rfl):wpAnyH P md ops Q S (fuel+1) bI a w:=tkf hi hb hQ hS y (ha▸h)
theorem aW{S:World->Prop}{W K':Act->World->Prop}{a a':Act}(hK:Shut (∀a w,S w->(S w->W a w)->K' a w))(hS:S w)(h:S w->W a' w)(ha:a=a':=by(try simp only[Act.put,Qq,Qr,Qs]);exact rfl):K' a w:=Shut.o hK _ _ hS (ha▸h)
theorem aC{p q:Prop}(h:q)(e:p:=by first|rfl|simp):p/\q:=⟨e,h⟩
theorem pC{size:Nat}{x:Value}{m:Nat}{l lx:List Value}(h:aK w e size v n l)(hx:aK w e size x m lx)
 (T ty:TypeId)(z:Value)(bytes:Nat)(ht:P.underlying T=some (.slice e))(l6:(P.info? e).map (λi=>(i.zero,i.size,i.bytes))=some (some z,size,bytes))(hz:z.cells.size=size)(hs:0<size)
 (h1:∀u∈lx,u.oneCell'=true)(Dt:n+m<=maxLen)(hb:(n+m)*bytes<=140737488355328):
  ∃v' w',df P T ty w v x=.ok v' w'/\aK w' e size v' (n+m) (l++lx)/\ag (ah v) w w'/\(∀g∈ah v',g∈ah v\/w.heap.size<=g):=by
 obtain⟨i0,hi,ke,iX,jF⟩:=info_parts l6;have Ay:=hx.1
 rcases hx.2 with⟨rfl,rfl⟩|⟨g,cap,rest,rfl,B,hc,hm⟩
 .have wR:lx=[]:=List.eq_nil_of_length_eq_zero (by simpa using Ay);subst wR;refine⟨v,w,?_,by simpa using h,ag.refl _ _,λx hx=> .inl hx⟩;unfold df
  rcases h.2 with⟨rfl,h0⟩|⟨g,cap,rest,rfl,BB,hc,hm⟩
  .simp[Builtin.append_,run_underlying ht,sizeOf,typeInfo,hi,Builtin.lenOf,Builtin.firstCells]
  .have hl:=h.1;have Ic:n<=cap:=by
    have:n*size<=cap*size:=by omega
    exact Nat.le_of_mul_le_mul_right this hs
   simp[Builtin.append_,run_underlying ht,sizeOf,typeInfo,hi,Builtin.lenOf,Builtin.firstCells,Ic,storeCells]
 .obtain⟨v',w',e1,h2,h3,h4⟩:=di (P:=P) h T ty i0 z bytes ht hi ke iX jF hz hs ⟨g,0,none⟩ m cap lx Ay (bn B 0 lx (by intro j u hu;rw[Nat.zero_add];exact List.getElem?_append_left (List.getElem?_eq_some_iff.1 hu).1▸hu)) h1 Dt hb;exact⟨v',w',e1,h2,h3,h4⟩
theorem slc_lit(w:World)(e:TypeId)(l:List Value)(h:l.length<=maxLen):aK (w.alloc (.cells l.toArray e)) e 1 (.slice (some ⟨w.heap.size,0,none⟩) l.length l.length) l.length l:=
 ⟨by simp,.inr ⟨w.heap.size,l.length,[],rfl,by rw[List.append_nil];exact aE.new w e l.toArray,by simp,h⟩⟩
theorem exl'(u:ByteArray)(a b:Nat):(u.extract a b).data.toList=(u.data.toList.drop a).take (b-a):=by
 rw[ByteArray.data_extract,Array.toList_extract,List.extract_eq_take_drop]
theorem yh{f:FuncId}{args:Array Value}(h:Calls P f args (w.drewN n) λe w'=>e=.returned v/\w.drewN n=w'):Calls P f args (w.drewN n) λe w''=>e=.returned v/\∃m,w''=w.drewN m:=h.mono λ_ _ ⟨he,hm⟩=>⟨he,n,hm.symm⟩
theorem tr{l:List UInt8}(S:aK w e 1 v n (dh l))(src dst:TypeId)(hs:P.underlying src=some (.slice e))(he:P.underlying e=some (.int .u8))(hd:P.underlying dst=some .string):
  (convert src dst v).run P w=.ok (.string ⟨l.toArray⟩) w:=by
 have hl:=S.1
 rcases S.2 with⟨rfl,rfl⟩|⟨g,cap,rest,rfl,B,hc,_⟩
 .have wR:l=[]:=List.eq_nil_of_length_eq_zero (by simpa using hl);subst wR;rw[run_convert_bytes_string w src dst e none 0 0 hs he hd];rfl
 .exact bZ (P:=P) w src dst e hs he hd ⟨g,0,none⟩ n cap l (by simpa using hl) (bn B 0 _ (by intro j u hu;rw[Nat.zero_add];exact List.getElem?_append_left (List.getElem?_eq_some_iff.1 hu).1▸hu))
variable{P:Program}{w:World}{e:TypeId}{v:Value}{n:Nat}{l:List Value}
def dr:Value->List Nat
 |.slice (some a) _ c=>if c=0 then []else [a.block]
 |_=>[]
def Sl(w:World)(e:TypeId)(v:Value)(n:Nat)(l:List Value):Prop:=
 l.length=n/\((∃A,v=.slice A 0 0/\n=0)\/
  ∃g cap rest,v=.slice (some ⟨g,0,none⟩) n cap/\0<cap/\aE w g e (l++rest).toArray/\l.length+rest.length=cap/\cap<=maxLen)
section
variable{w w':World}{e:TypeId}{v:Value}{n:Nat}{l:List Value}{S:List Nat}
theorem Sl.nil(w:World)(e:TypeId):Sl w e (.slice none 0 0) 0 []:=⟨rfl,.inl ⟨none,rfl,rfl⟩⟩
theorem Sl.IK(h:aK w e 1 v n l):Sl w e v n l:=by
 have hl:=h.1;refine⟨by omega,?_⟩
 rcases h.2 with⟨rfl,rfl⟩|⟨g,cap,rest,rfl,B,hc,hm⟩
 .exact .inl ⟨none,rfl,rfl⟩
 .by_cases h0:cap=0
  .subst h0;have:n=0:=by omega
   subst this;exact .inl ⟨_,rfl,rfl⟩
  .exact .inr ⟨g,cap,rest,rfl,by omega,B,by omega,hm⟩
theorem Sl.only(h:Sl w e v n l)(ho:ag S w w')(hd:∀g∈dr v,g∉S):Sl w' e v n l:=by
 refine⟨h.1,h.2.imp id ?_⟩;rintro⟨g,cap,rest,rfl,h0,B,hc,hm⟩;exact⟨g,cap,rest,rfl,h0,B.only ho (hd g (by simp[dr];omega)),hc,hm⟩
theorem Sl.drew(h:Sl w e v n l):Sl w.drew e v n l:=h
theorem Sl.alloc(h:Sl w e v n l)(o:Obj):Sl (w.alloc o) e v n l:=h.only (S:=[]) ((ag.refl _ _).alloc o) (by simp)
theorem Sl.lt(h:Sl w e v n l):∀g∈dr v,g<w.heap.size:=by
 rcases h.2 with⟨A,rfl,_⟩|⟨g,cap,rest,rfl,h0,B,_⟩
 .cases A<;>simp[dr]
 .intro x hx;simp[dr]at hx;rw[hx.2];exact B.lt
theorem Sl.val(h:Sl w e v n l):∃A c,v=.slice A n c/\n<=c:=by
 rcases h.2 with⟨A,rfl,rfl⟩|⟨g,cap,rest,rfl,_,_,hc,_⟩
 .exact⟨A,0,rfl,Nat.le_refl _⟩
 .exact⟨_,cap,rfl,by have:=h.1;omega⟩
theorem Sl.form(h:Sl w e v n l)(hn:0<n):∃g cap rest,v=.slice (some ⟨g,0,none⟩) n cap/\aE w g e (l++rest).toArray/\n<=cap/\l.length+rest.length=cap:=by
 rcases h.2 with⟨_,_,h0⟩|⟨g,cap,rest,rfl,_,B,hc,_⟩
 .omega
 .exact⟨g,cap,rest,rfl,B,by have:=h.1;omega,hc⟩
theorem Sl.bG(h:Sl w e v n l)(k:Nat)(hk:k<n)(u:Value):∃g c,v=.slice (some ⟨g,0,none⟩) n c/\Sl (w.setCell ⟨g,k,none⟩ u) e v n (l.set k u)/\dr v=[g]/\w.frozen? ⟨g,k,none⟩=false/\ag [g] w (w.setCell ⟨g,k,none⟩ u):=by
 rcases h.2 with⟨A,rfl,h0⟩|⟨g,cap,rest,rfl,h0,B,hc,hm⟩
 .omega
 .have hl:=h.1;refine⟨g,cap,rfl,⟨by rw[List.length_set];exact hl,.inr ⟨g,cap,rest,rfl,h0,?_,by rw[List.length_set];exact hc,hm⟩⟩,by simp[dr];omega,B.frozen k (by simp;omega),(ag.refl _ _).setCell (by simp) _⟩;have B2:=B.bG k u;rw[List.setIfInBounds_toArray,List.set_append_left _ _ (by omega)]at B2;exact B2
end
theorem MD(h:Sl w e v n l)
 (T ty:TypeId)(z:Value)(bytes:Nat)(ht:P.underlying T=some (.slice e))(l6:(P.info? e).map (λi=>(i.zero,i.size,i.bytes))=some (some z,1,bytes))(hz:z.cells.size=1)
 (x:Option Addr)(m c:Nat)(news:List Value)(hl:news.length=m)(Bi:∀j u,news[j]?=some u->∃a,x=some a/\w.cell? (a.add j)=some u)(h1:∀u∈news,u.oneCell'=true)
 (Dt:n+m<=maxLen)(hb:(n+m)*bytes<=140737488355328):
  ∃v' w',df P T ty w v (.slice x m c)= .ok v' w'/\Sl w' e v' (n+m) (l++news)/\ag (dr v) w w'/\(∀g∈dr v',g∈dr v\/w.heap.size<=g):=by
 obtain⟨i0,hi,ke,iX,jF⟩:=info_parts l6;have oU:=h.1
 by_cases hm0:m=0
 .subst hm0;have wR:news=[]:=List.eq_nil_of_length_eq_zero hl;subst wR;refine⟨v,w,?_,by simpa using h,ag.refl _ _,λx hx=> .inl hx⟩;unfold df;obtain⟨A,cc,rfl,Ic⟩:=h.val
  cases x with
  |none=>cases A<;>simp[Builtin.append_,run_underlying ht,sizeOf,typeInfo,hi,Builtin.lenOf,Builtin.firstCells,Ic,storeCells]
  |some a=>
   cases A with
   |none=>simp[Builtin.append_,run_underlying ht,sizeOf,typeInfo,hi,Builtin.lenOf,Builtin.firstCells,Ic,storeCells,loadCells,loadCellsFrom]
   |some b=>simp[Builtin.append_,run_underlying ht,sizeOf,typeInfo,hi,Builtin.lenOf,Builtin.firstCells,Ic,storeCells,loadCells,loadCellsFrom]
 .obtain⟨u0,hu0⟩:∃u,news[0]?=some u:=⟨news[0]'(by omega),List.getElem?_eq_getElem (by omega)⟩;obtain⟨a,rfl,_⟩:=Bi 0 u0 hu0;have Qt:∀j u,news[j]?=some u->w.cell? (a.add j)=some u:=λj u hu=>by
   obtain⟨a',e1,h2⟩:=Bi j u hu;injection e1 with e1
   rw[e1];exact h2
  rcases h.2 with⟨A,rfl,rfl⟩|⟨g,cap,rest,rfl,h0,B,hc,hm⟩
  .have wR:l=[]:=List.eq_nil_of_length_eq_zero oU;subst wR
   cases A with
   |none=>
    obtain⟨v',w',e1,h2,h3,h4⟩:=di (P:=P) (aK.nil w e 1) T ty i0 z bytes ht hi ke iX jF hz (by omega) a m c news (by omega) Qt h1 Dt hb;exact⟨v',w',e1,Sl.IK h2,h3.mono (by simp[ah]),λg hg=>by
     have hg':g∈ah v':=by
      rcases h2.2 with⟨rfl,_⟩|⟨g',Ds,rest',rfl,_⟩
      .simp[dr]at hg
      .simp[dr]at hg;simp[ah];exact hg.2
     exact(h4 g hg').elim (λh=>by simp[ah]at h) .inr⟩
   |some b=>
    obtain⟨v',w',Du,h2,h3⟩:=run_append_arg_grows (P:=P) w T ty e i0 z 1 bytes ht hi ke iX jF hz (by omega) b 0 0 [] rfl (by simp) a m c news (by omega) Qt (by omega) Dt hb;refine⟨v',w',Du,Sl.IK (.yf h2),(ag.refl _ _).grown h3 (by simp),?_⟩;intro g hg
    rcases h2.2 with⟨rfl,_⟩|⟨g'',Ds,cur,rfl,hb',_⟩
    .simp[dr]at hg
    .simp[dr]at hg;rw[hg.2];exact .inr hb'
  .have S:aK w e 1 (.slice (some ⟨g,0,none⟩) n cap) n l:=⟨by omega,.inr ⟨g,cap,rest,rfl,B,by omega,hm⟩⟩;obtain⟨v',w',e1,h2,h3,h4⟩:=di (P:=P) S T ty i0 z bytes ht hi ke iX jF hz (by omega) a m c news (by omega) Qt h1 Dt hb;have ho:dr (.slice (some ⟨g,0,none⟩) n cap)=[g]:=by simp[dr];omega
   refine⟨v',w',e1,Sl.IK h2,by rw[ho];exact h3.mono (by simp[ah]),λx hx=>?_⟩;rw[ho];have hx':x∈ah v':=by
    rcases h2.2 with⟨rfl,_⟩|⟨g',Ds,rest',rfl,_⟩
    .simp[dr]at hx
    .simp[dr]at hx;simp[ah];exact hx.2
   exact(h4 x hx').imp (by simp[ah]) id
theorem IL(h:Sl w e v n l)
 (T ty:TypeId)(z:Value)(bytes:Nat)(ht:P.underlying T=some (.slice e))(l6:(P.info? e).map (λi=>(i.zero,i.size,i.bytes))=some (some z,1,bytes))(hz:z.cells.size=1)
 (x:Value)(hx:x.oneCell'=true)(Dt:n+1<=maxLen)(hb:(n+1)*bytes<=140737488355328):
  ∃v' w',df P T ty (w.alloc (.cells #[x] e)) v (.slice (some ⟨w.heap.size,0,none⟩) 1 1)= .ok v' w'/\Sl w' e v' (n+1) (l++[x])/\ag (dr v) w w'/\(∀g∈dr v',g∈dr v\/w.heap.size<=g):=by
 obtain⟨v',w',h1,h2,h3,h4⟩:=MD (P:=P) (h.alloc (.cells #[x] e)) T ty z bytes ht l6 hz (some ⟨w.heap.size,0,none⟩) 1 1 [x] rfl
  (λj u hu=>⟨_,rfl,bn (l:=[x]) (aE.new w e #[x]) 0 _ (by simp) j u hu⟩) (by intro u hu;simp at hu;subst hu;exact hx) Dt hb
 exact⟨v',w',h1,h2,((ag.refl _ _).alloc _).aN h3 (λx hx _=>hx),λg hg=>(h4 g hg).imp id (λh=>by simp at h;omega)⟩
end
namespace jG
variable{r c:Nat}
def ME:Nat:=2197175160
def tab:List Nat:=[0x00000000,0x105ec76f,0x20bd8ede,0x30e349b1,0x417b1dbc,0x5125dad3,0x61c69362,0x7198540d,
 0x82f63b78,0x92a8fc17,0xa24bb5a6,0xb21572c9,0xc38d26c4,0xd3d3e1ab,0xe330a81a,0xf36e6f75]
def nib(r:Nat):Nat:=r / 16 ^^^ tab.getD (r % 16) 0
def du(r c:Nat):Nat:=nib (nib (r ^^^ c))
def pD(r:Nat)(l:List UInt8):Nat:=l.foldl (λr c=>du r c.toNat) r
def kM(l:List UInt8):Nat:=4294967295-pD 4294967295 l
def z(r:Nat):Nat:=r / 2 ^^^ if r % 2=1 then ME else 0
theorem xor_div_two(a b:Nat):(a ^^^ b) / 2=a / 2 ^^^ b / 2:=Nat.xor_div_two
theorem Fk(a b:Nat):(a ^^^ b) % 2=(a+b) % 2:=by
 have h:(a ^^^ b) % 2 ^ 1=(a % 2 ^ 1) ^^^ (b % 2 ^ 1):=Nat.xor_mod_two_pow;simp only[Nat.pow_one]at h;rw[h]
 rcases xu a with ha|ha<;>rcases xu b with hb|hb<;>rw[ha,hb]<;>simp<;>omega
theorem z_xor(a b:Nat):z (a ^^^ b)=z a ^^^ z b:=by
 unfold z;rw[xor_div_two,Fk]
 rcases xu a with ha|ha<;>rcases xu b with hb|hb
 .rw[if_neg (by omega),if_neg (by omega),if_neg (by omega)];simp
 .rw[if_pos (by omega),if_neg (by omega),if_pos (by omega)];simp[Nat.xor_assoc]
 .rw[if_pos (by omega),if_pos (by omega),if_neg (by omega),Nat.xor_zero];ac_rfl
 .rw[if_neg (by omega),if_pos (by omega),if_pos (by omega)];simp only[Nat.xor_zero];have:a / 2 ^^^ ME ^^^ (b / 2 ^^^ ME)=a / 2 ^^^ b / 2 ^^^ (ME ^^^ ME):=by ac_rfl
  rw[this];simp
theorem Qu(q:Nat):z (2*q)=q:=by
 unfold z;rw[if_neg (by omega)];simp
theorem split16(r:Nat):r=(2*(2*(2*(2*(r / 16))))) ^^^ (r % 16):=by
 have h:(2*(2*(2*(2*(r / 16)))))=2 ^ 4*(r / 16):=by omega
 rw[h];have:r % 16<2 ^ 4:=by omega
 rw[Nat.xor_comm];have e:r % 16 ^^^ 2 ^ 4*(r / 16)=2 ^ 4*(r / 16)+r % 16:=by
  apply Nat.eq_of_testBit_eq;intro i;rw[Nat.testBit_xor,Nat.testBit_two_pow_mul,Nat.testBit_two_pow_mul_add _ this]
  by_cases h4:i<4
  .simp[h4,Nat.not_le.2 h4]
  .have:(r % 16).testBit i=false:=Nat.testBit_lt_two_pow (tf this (xy (by decide) (by omega)));simp[h4,this,xx.1 h4]
 rw[e];omega
theorem Qv:∀n,n<16->z (z (z (z n)))=tab.getD n 0:=by decide
theorem z4_nib(r:Nat):z (z (z (z r)))=nib r:=by
 conv=>lhs;rw[split16 r]
 simp only[z_xor,Qu];rw[Qv _ (qD _ (by decide))];rfl
theorem poly_lt:ME<2 ^ 32:=by decide
theorem z_lt(h:r<4294967296):z r<4294967296:=by
 unfold z;have h1:r / 2<2 ^ 32:=by omega
 split
 .exact Nat.xor_lt_two_pow h1 poly_lt
 .simpa using h1
theorem IM(h:r<4294967296):nib r<4294967296:=by
 rw[<-z4_nib];exact z_lt (z_lt (z_lt (z_lt h)))
theorem vO(h:r<4294967296)(hc:c<256):r ^^^ c<4294967296:=
 Nat.xor_lt_two_pow (n:=32) h (by omega)
theorem Fl(h:r<4294967296)(hc:c<256):du r c<4294967296:=IM (IM (vO h hc))
theorem Qw(l:List UInt8):∀{r:Nat},r<4294967296->pD r l<4294967296:=by
 induction l with
 |nil=>intro r h;exact h
 |cons c l ih=>intro r h;exact ih (Fl h (by have:=c.toNat_lt;omega))
theorem Dv(l:List UInt8):kM l<4294967296:=by unfold kM;omega
theorem MG(r:Nat):pD r []=r:=rfl
theorem IP(r:Nat)(l:List UInt8)(c:UInt8):pD r (l++[c])=du (pD r l) c.toNat:=by simp[pD]
def js(n:Nat):List UInt8:=[UInt8.ofNat (n % 256),UInt8.ofNat (n / 256 % 256),UInt8.ofNat (n / 65536 % 256),UInt8.ofNat (n / 16777216 % 256)]
def cf(l:List UInt8):List UInt8:=js (kM l)++l
open Go.RowKit
def uy:Obj:= .cells #[Value.int IntKind.u32 0,Value.int IntKind.u32 274646895,Value.int IntKind.u32 549293790,
     Value.int IntKind.u32 820201905,Value.int IntKind.u32 1098587580,Value.int IntKind.u32 1361435347,
     Value.int IntKind.u32 1640403810,Value.int IntKind.u32 1905808397,Value.int IntKind.u32 2197175160,
     Value.int IntKind.u32 2460548119,Value.int IntKind.u32 2722870694,Value.int IntKind.u32 2987750089,
     Value.int IntKind.u32 3280807620,Value.int IntKind.u32 3553878443,Value.int IntKind.u32 3811616794,
     Value.int IntKind.u32 4084100981] 304 (0,0)
theorem MH:∀n,n<16->(#[Value.int IntKind.u32 0,Value.int IntKind.u32 274646895,Value.int IntKind.u32 549293790,
     Value.int IntKind.u32 820201905,Value.int IntKind.u32 1098587580,Value.int IntKind.u32 1361435347,
     Value.int IntKind.u32 1640403810,Value.int IntKind.u32 1905808397,Value.int IntKind.u32 2197175160,
     Value.int IntKind.u32 2460548119,Value.int IntKind.u32 2722870694,Value.int IntKind.u32 2987750089,
     Value.int IntKind.u32 3280807620,Value.int IntKind.u32 3553878443,Value.int IntKind.u32 3811616794,
     Value.int IntKind.u32 4084100981]:Array Value)[n]?=some (.int .u32 (tab.getD n 0:Nat)):=by
 intro n hn;have h:n=0\/n=1\/n=2\/n=3\/n=4\/n=5\/n=6\/n=7\/n=8\/n=9\/n=10\/n=11\/n=12\/n=13\/n=14\/n=15:=by omega
 rcases h with rfl|rfl|rfl|rfl|rfl|rfl|rfl|rfl|rfl|rfl|rfl|rfl|rfl|rfl|rfl|rfl<;>rfl
theorem Qx(w:World)(n:Nat)(hn:n<16):(w.alloc uy).cell? ⟨w.heap.size,n,none⟩=some (.int .u32 (tab.getD n 0:Nat)):=by
 have h:(w.alloc uy).heap[w.heap.size]?=some uy:=heap_alloc_new w _;exact(cell_of_row _ _ _ _ _ _ h).trans (MH n hn)
def rU(r c:Nat)(k:Nat):Nat:=if k=0 then r ^^^ c else if k=1 then nib (r ^^^ c)else du r c
theorem MI{r c:Nat}(hr:r<4294967296)(hc:c<256)(k:Nat):rU r c k<4294967296:=by
 unfold rU;have:=vO hr hc
 split
 .exact this
 .split
  .exact IM this
  .exact Fl hr hc
theorem Fo(r c k:Nat)(hk:k<2):rU r c (k+1)=nib (rU r c k):=by
 unfold rU;have h:k=0\/k=1:=by omega
 rcases h with rfl|rfl<;>simp[du]
theorem and15(r:Nat)(h:r<4294967296):bits .and .u32 (r:Int) 15=((r % 16:Nat):Int):=by
 have:=u32_and_nat r 15 h (by omega);rw[show((15:Nat):Int)=15 from rfl]at this;rw[this]
 congr 1
 exact Nat.and_two_pow_sub_one_eq_mod r 4
theorem yi(r c:Nat)(w:World)(hr:r<4294967296)(hc:c<256):
  Calls prog 243 #[.int .u32 r,.int .u8 c] w λe w'=>e=.returned (.int .u32 (du r c))/\Below w.heap.size w w':=by
 have hx:=u32_xor_nat r c hr (by omega);go_enter func243,ntmps243
 go_wp2
 clear hx;have HB:Below w.heap.size w (w.alloc uy):=(Below.refl _ _).alloc (aj _) _;have hc':=Qx w
 change Code.wp _ _ _ _ (w.alloc uy)
 generalize w.alloc uy=wr at HB hc' ⊢
 go_loop [0,11] (λreg i=> ∃k:Nat,k<=2/\i=.int .i64 k/\reg=.int .u32 (rU r c k:Nat)) (λ_ i=>2-(intOf i).toNat)
 case atStart=>exact⟨0,by omega,rfl,rfl⟩
 case round=>
  obtain⟨k,hk,rfl,rfl⟩:=hrel;have dV:=MI hr hc k
  by_cases h:k<2
  .have HS:=xh (Fo r c k h);generalize rU r c k=R at *;have e1:=and15 R dV;have e2:=hc' (R % 16) (by omega);have e3:bits .xor .u32 ((R / 16:Nat):Int) ((tab.getD (R % 16) 0:Nat):Int)=((nib R:Nat):Int):=by
    have:tab.getD (R % 16) 0<4294967296:=by
     have:∀n,n<16->tab.getD n 0<4294967296:=by decide
     exact this _ (by omega)
    rw[u32_xor_nat _ _ (by omega) this];rfl
   clear hc'
   go_wp2
   go_round
   case rel=>exact⟨k+1,by omega,by go_num,by rw[HS.o,<-e3];simp⟩
   case measure=>simp[intOf];omega
  .go_wp2
   go_ret;have:k=2:=by omega
   subst this;exact⟨rfl,HB⟩
theorem Lk(r:Nat)(hr:r<4294967296):bits BinOp.xor IntKind.u32 IntKind.u32.max (r:Int)=((4294967295-r:Nat):Int):=by
 have h:IntKind.u32.max=((4294967295:Nat):Int):=by rfl
 rw[h,u32_xor_nat _ _ (by omega) hr]
 congr 1
 have h2:=Nat.xor_comm 4294967295 r;rw[h2];have:r ^^^ (2 ^ 32-1)=2 ^ 32-1-r:=by
  apply Nat.eq_of_testBit_eq;intro i;rw[Nat.testBit_xor,Nat.testBit_two_pow_sub_one];have h3:=Nat.testBit_two_pow_sub_succ (x:=r) (n:=32) (by omega) i;rw[show 2 ^ 32-1-r=2 ^ 32-(r+1)from by omega,h3]
  by_cases hi:i<32
  .simp[hi]
  .simp[hi];exact Nat.testBit_lt_two_pow (tf (show r<2 ^ 32 by omega) (xy (by decide) (by omega)))
 exact this
theorem MJ(s:ByteArray)(k:Nat)(h:k<s.size):s.data.toList.take (k+1)=s.data.toList.take k++[s[k]]:=by
 rw[jO (by simpa using h)];rfl
theorem Qy(r:Nat)(s:ByteArray)(w:World)(hr:r<4294967296)(hs:s.size<=maxLen):
  Calls prog 226 #[.int .u32 r,.string s] w λe w'=>e=.returned (.int .u32 ((4294967295-pD (4294967295-r) s.data.toList:Nat):Int))/\Below w.heap.size w w':=by
 have hx:=Lk r hr;have E9:pD (4294967295-r) []<4294967296:=by show 4294967295-r<_;omega
 unfold maxLen at hs;go_enter func226,ntmps226
 go_wp2
 clear hx
 go_loopw [5,6,11] (λreg _ i wr=> ∃k:Nat,k<=s.size/\i=.int .i64 k/\reg=.int .u32 ((pD (4294967295-r) (s.data.toList.take k):Nat):Int)/\Below w.heap.size w wr) (λ_ _ i _=>s.size-(intOf i).toNat)
 case atStart=>exact⟨0,bm _,rfl,rfl,Below.refl _ _⟩
 case round=>
  obtain⟨k,hk,rfl,rfl,hb⟩:=hrel;have dV:=Qw (s.data.toList.take k) E9;simp only[MG]at dV
  by_cases h:k<s.size
  .have HS:=xh (show pD (4294967295-r) (s.data.toList.take (k+1))=du (pD (4294967295-r) (s.data.toList.take k)) s[k].toNat from by rw[MJ s k h,IP]);go_wp2_with (go_at_call 243;refine(yi _ _ _ dV (by have:=s[k].toNat_lt;omega)).mono ?_;rintro e w1 ⟨rfl,aJ⟩);go_roundw
   case rel=>exact⟨k+1,by omega,by go_num,by rw[HS.o],hb.trans (aJ.mono hb.size)⟩
   case measure=>simp[intOf];omega
  .have hx2:=Lk _ dV;have ht:s.data.toList.take k=s.data.toList:=bY (by simp;omega);rw[ht]at hx2;rw[ht]
   go_wp2
   go_ret;exact⟨rfl,hb⟩
theorem yj(n:Nat)(w:World)(hn:n<4294967296):
  Calls prog 202 #[.int .u32 n] w λe w'=>e=.returned (.agg #[.int .u8 (n % 256:Nat),.int .u8 (n / 256 % 256:Nat),.int .u8 (n / 65536 % 256:Nat),.int .u8 (n / 16777216 % 256:Nat)])/\Below w.heap.size w w':=by
 go_enter func202,ntmps202
 go_wp2
 refine wp_loop_rounds 5 ?_;rw[rounds_succ]
 go_wp2
 rw[rounds_succ]
 go_wp2
 rw[rounds_succ]
 go_wp2
 rw[rounds_succ]
 go_wp2
 rw[rounds_succ]
 go_wp2
 refine bodyPost_ret (v:= .agg #[.int .u8 (n % 256:Nat),.int .u8 (n / 256 % 256:Nat),.int .u8 (n / 65536 % 256:Nat),.int .u8 (n / 16777216 % 256:Nat)]) ?_ rfl ⟨rfl,?_⟩
 .simp[results,Tryz.results202,go_sem];omega
 .exact((Below.refl _ _).alloc (aj _) _).alloc (by simp) _
theorem Dw(s:ByteArray)(w:World)(hs:s.size<=maxLen):
  Calls prog 203 #[.string s] w λe w'=>e=.returned (.int .u32 (kM s.data.toList:Nat))/\Below w.heap.size w w':=by
 go_enter func203,ntmps203;go_wp2_with (go_at_call 226;refine(Qy 0 _ _ (by omega) hs).mono ?_;rintro e w1 ⟨rfl,aJ⟩);go_ret;exact⟨rfl,aJ⟩
theorem dU:(prog.info? 5).map (λi=>(i.zero,i.size,i.bytes))=some (some (.int .u8 0),1,1):=by kernel_rfl
theorem oe:(prog.info? 5).map (·.size)=some 1:=by kernel_rfl
theorem oh(n:Int)(h0:0<=n)(h1:n<=140737488355328)(w:World):
  (Instr.makeSlice 150 (.int .i64 n) (.int .i64 n)).run prog w=.ok (.slice (some ⟨w.heap.size,0,none⟩) n.toNat n.toNat) (w.alloc (.cells (madeCells #[.int .u8 0] n.toNat) 5)):=by
 obtain⟨i0,hi,ke,iX,jF⟩:=info_parts dU;have h:=run_make (P:=prog) w 150 5 i0 (.int .u8 0) underlying150 hi ke .i64 .i64 n n h0 (jK _) (by rw[jF];omega) (by omega);simpa [iX,Value.cells]using h
def iO(n:Nat):List Value:=[.int .u8 ((n:Int) % 256),.int .u8 ((n:Int) / 256 % 256),.int .u8 ((n:Int) / 65536 % 256),.int .u8 ((n:Int) / 16777216 % 256)]
theorem tt(n:Nat):iO n=dh (js n):=by
 have t:∀n:Nat,(UInt8.ofNat (n % 256)).toNat=n % 256:=λn=>by simp
 simp only[iO,dh,js,List.map,bv,t];rfl
theorem MK(n:Nat):∀v∈iO n,v.oneCell'=true:=by rw[tt];exact qF _
theorem Bj(l:List UInt8)(n:Nat)(hn:n=l.length)(z:Value):putAt (putAt (List.replicate (4+n) z) 0 (iO (kM l))) 4 (dh (l.take n))=dh (cf l):=by
 subst hn;have h4:(iO (kM l)).length=4:=rfl;have e1:putAt (List.replicate (4+l.length) z) 0 (iO (kM l))=iO (kM l)++List.replicate l.length z:=by
  simp[putAt,h4]
 rw[e1,cf,cw,<-tt];unfold putAt;rw[qz (by simp[h4]),bY (by simp[h4]),j8 (by simp[h4])];simp
theorem Ll(s:ByteArray)(w:World)(hs:s.size<=100000000):
  Calls prog 158 #[.string s] w λe w'=>e=.returned (.string ⟨(cf s.data.toList).toArray⟩)/\Below w.heap.size w w':=by
 have hmk:=λw'=>oh (4+s.size) (by omega) (by omega) w';go_enter func158,ntmps158;go_wp2_with (first|(go_at_call 203;refine(Dw _ _ (by unfold maxLen;omega)).mono ?_;rintro e w1 ⟨rfl,aJ⟩)|(go_at_call 202;refine(yj _ _ (Dv _)).mono ?_;rintro e w2 ⟨rfl,bS⟩));clear hmk;rw[gM]at aJ;have iX:w.heap.size<w1.heap.size:=by have:=aJ.size;simp at this;omega
 have jF:w.heap.size<w2.heap.size:=by have:=bS.size;omega
 have B1:aE w2 w.heap.size 5 (List.replicate (4+s.size) (.int .u8 0)).toArray:=((aE.new _ _ _).below aJ (by simp)).below bS iX;have B2:=B1.alloc (.cells (iO (kM s.data.toList)).toArray 257);have B3:=aE.new w2 257 (iO (kM s.data.toList)).toArray;have O3:Below w.heap.size w (w2.alloc (.cells (iO (kM s.data.toList)).toArray 257)):=
  ((((Below.refl _ _).alloc (aj _) _).trans (aJ.mono (by simp))).trans (bS.mono (by omega))).alloc (by omega) _
 change Oper.upon _ _ _ _ _ ((Sem.run _ _ (w2.alloc (.cells (iO (kM s.data.toList)).toArray 257))).andThen _)
 generalize (w2.alloc (.cells (iO (kM s.data.toList)).toArray 257))=W at B2 B3 O3 ⊢;obtain⟨W4,e4,B4,O4⟩:=yd (P:=prog) B2 150 150 3 5 0 (4+s.size) (4+s.size) ⟨w2.heap.size,0,none⟩ 4 4 (iO (kM s.data.toList)) underlying150 oe
  (by show 4=min 4 (4+s.size);omega) (bn B3 0 _ (by simp)) (by show 0+4<=_;simp) (MK _)
 rw[e4];clear e4 B1 B2 B3;have O5:=O3.trans (O4.aO O3.size (by simp))
 go_wp2
 .have hs0:s=ByteArray.empty:=by assumption
  obtain⟨W5,e5,B5,O6⟩:=mL (P:=prog) B4 150 9 3 5 0 0 0 ByteArray.empty 0 underlying150 oe (by rfl) (by simp);have eb:putAt (putAt (List.replicate (4+s.size) (.int .u8 0)) 0 (iO (kM s.data.toList))) 0 (dh (ByteArray.empty.data.toList.take 0))=dh (cf s.data.toList):=by
   subst hs0;have:=Bj ByteArray.empty.data.toList 0 rfl (.int .u8 0);rw[<-this,iM];exact(ux _ _).trans (ux _ _).symm
  rw[eb]at B5;have ui:=bZ (P:=prog) W5 150 9 5 underlying150 underlying5 underlying9 ⟨w.heap.size,0,none⟩ 4 4 (cf s.data.toList) (by subst hs0;rfl) (bn B5 0 _ (by simp));rw[e5];have O7:=O5.trans (O6.aO O5.size (by simp));clear e5 B4 B5 eb
  go_wp2
  go_ret;exact⟨by subst hs0;rfl,O7⟩
 .obtain⟨W5,e5,B5,O6⟩:=mL (P:=prog) B4 150 9 3 5 4 s.size s.size s s.size underlying150 oe (by simp) (by rw[jP (by show 0+4<=_;simp)];simp);rw[Bj _ _ (by simp)]at B5;have ui:=bZ (P:=prog) W5 150 9 5 underlying150 underlying5 underlying9 ⟨w.heap.size,0,none⟩ (4+s.size) (4+s.size) (cf s.data.toList) (by simp[cf,js];omega) (bn B5 0 _ (by simp));rw[e5];have O7:=O5.trans (O6.aO O5.size (by simp))
  clear e5 B4 B5
  go_wp2
  go_ret;exact⟨rfl,O7⟩
theorem tu(s:ByteArray):(s.extract 0 4).data.toList=s.data.toList.take 4:=by
 rw[Il,Ql,Iw];simp
theorem cut_ok(s:ByteArray)(w:World)(h4:4<=s.size)(hs:s.size<=maxLen)(hc:js (kM (s.data.toList.drop 4))=s.data.toList.take 4):
  Calls prog 180 #[.string s] w λe w'=>e=.returned (.tuple #[.string (s.extract 4 s.size),.int .i64 0])/\Below w.heap.size w w':=by
 unfold maxLen at hs;have hN:kM (List.take (s.size-4) (List.drop 4 s.data.toList))<4294967296:=Dv _;obtain⟨N,eN⟩:∃N,kM (List.take (s.size-4) (List.drop 4 s.data.toList))=N:=⟨_,rfl⟩;have HC:=xh (show js N=s.data.toList.take 4 from by
  rw[<-hc,<-eN,bY (by simp)])
 clear hc;rw[eN]at hN;go_enter func180,ntmps180;go_wp2_with (first|(go_at_call 203;refine(Dw _ _ (by simp;unfold maxLen;omega)).mono ?_;rintro e w1 ⟨rfl,aJ⟩)|(go_at_call 202;refine(yj _ _ hN).mono ?_;rintro e w2 ⟨rfl,bS⟩));clear eN;have B3:aE (w2.alloc (.cells (iO N).toArray 257)) w2.heap.size 257 (dh (s.data.toList.take 4)).toArray:=by
  rw[tt,HC.o];exact aE.new _ _ _
 have O3:Below w.heap.size w (w2.alloc (.cells (iO N).toArray 257)):=
  (aJ.trans (bS.mono aJ.size)).alloc (ay aJ.size bS.size) _
 change Code.wp _ _ _ _ (w2.alloc (.cells (iO N).toArray 257))
 generalize (w2.alloc (.cells (iO N).toArray 257))=W at B3 O3 ⊢;have ui:=λn=>bZ (P:=prog) (W.drewN n) 150 9 5 underlying150 underlying5 underlying9 ⟨w2.heap.size,0,none⟩ 4 4 (s.data.toList.take 4) (by simp;omega) (bn (B3.drewN n) 0 (dh (s.data.toList.take 4)) (by simp));go_quiet (fail);have hq:(!List.take 4 s.data.toList==(s.extract 0 4).toList)=false:=by rw[bu,tu];simp
 rw[hq]
 go_wp2
 go_ret2;exact⟨rfl,cD O3 _⟩
theorem Fp(s:ByteArray)(w:World)(h4:4<=s.size)(hs:s.size<=maxLen)(hc:js (kM (s.data.toList.drop 4))≠s.data.toList.take 4):
  Calls prog 180 #[.string s] w λe w'=>e=.returned (.tuple #[.string ⟨#[]⟩,.int .i64 14])/\Below w.heap.size w w':=by
 unfold maxLen at hs;have hN:kM (List.take (s.size-4) (List.drop 4 s.data.toList))<4294967296:=Dv _;obtain⟨N,eN⟩:∃N,kM (List.take (s.size-4) (List.drop 4 s.data.toList))=N:=⟨_,rfl⟩;have HC:=xh (show js N≠s.data.toList.take 4 from by
  intro e;apply hc;rw[<-e,<-eN,bY (by simp)])
 clear hc;rw[eN]at hN;go_enter func180,ntmps180;go_wp2_with (first|(go_at_call 203;refine(Dw _ _ (by simp;unfold maxLen;omega)).mono ?_;rintro e w1 ⟨rfl,aJ⟩)|(go_at_call 202;refine(yj _ _ hN).mono ?_;rintro e w2 ⟨rfl,bS⟩));clear eN;have B3:aE (w2.alloc (.cells (iO N).toArray 257)) w2.heap.size 257 (dh (js N)).toArray:=by
  rw[tt];exact aE.new _ _ _
 have O3:Below w.heap.size w (w2.alloc (.cells (iO N).toArray 257)):=
  (aJ.trans (bS.mono aJ.size)).alloc (ay aJ.size bS.size) _
 change Code.wp _ _ _ _ (w2.alloc (.cells (iO N).toArray 257))
 generalize (w2.alloc (.cells (iO N).toArray 257))=W at B3 O3 ⊢;have ui:=λn=>bZ (P:=prog) (W.drewN n) 150 9 5 underlying150 underlying5 underlying9 ⟨w2.heap.size,0,none⟩ 4 4 (js N) rfl (bn (B3.drewN n) 0 (dh (js N)) (by simp));go_quiet (fail);have hq:(!js N==(s.extract 0 4).toList)=true:=by rw[bu,tu];simpa using HC.o
 rw[hq]
 go_wp2
 go_ret2;exact⟨rfl,cD O3 _⟩
end jG
namespace Pk
open Go.RowKit
attribute [local go_sem ↓] bq
def IQ(N k:Nat):List UInt8:=(List.range k).map λj=>UInt8.ofNat (N / 256 ^ (7-j))
def vP(N:Nat):List UInt8:=IQ N 8
theorem kN(N k:Nat):IQ N (k+1)=IQ N k++[UInt8.ofNat (N / 256 ^ (7-k))]:=by
 unfold IQ;rw[Dl,cW];rfl
theorem om(N k:Nat):(IQ N k).length=k:=by simp[IQ]
theorem IU(n:Nat):Value.int .u8 ((n:Int) % 256)=bv (UInt8.ofNat n):=by
 unfold bv
 congr 1
theorem rV(N p:Nat):Value.int .u8 ((N:Int) / (p:Int) % 256)=bv (UInt8.ofNat (N / p)):=by
 rw[<-Int.natCast_ediv];exact IU _
theorem jg(N:Nat)(hN:N<18446744073709551616)(w:World):
  Calls prog 141 #[.slice none 0 0,.int .u64 (N:Int),.int .i64 8] w λe w'=>(∃v,e=.returned v/\aK w' 5 1 v 8 (dh (vP N)))/\Below w.heap.size w w':=by
 go_enter func141,ntmps141;go_wp2_with fail
 go_loopw [0,7] (λsv iv wr=> ∃(k:Nat),k<=8/\iv=.int .i64 (7-(k:Int))/\aK wr 5 1 sv k (dh (IQ N k))/\Below w.heap.size w wr/\Hid (∀x∈ah sv,w.heap.size<=x)) (λ_ iv _=>(intOf iv+1).toNat)
 case atStart=>exact⟨0,by omega,rfl,aK.nil _ _ _,Below.refl _ _,xh (by simp[ah])⟩
 case round=>
  obtain⟨k,hk,rfl,S,O,F⟩:=hrel;obtain⟨VA,vc,rfl⟩:=ao S;have hkk:k=0\/k=1\/k=2\/k=3\/k=4\/k=5\/k=6\/k=7\/k=8:=by omega
  rcases hkk with rfl|rfl|rfl|rfl|rfl|rfl|rfl|rfl|rfl
  .have hx:Value.int .u8 ((N:Int) / 72057594037927936)=bv (UInt8.ofNat (N / 72057594037927936)):=by rw[<-rV N 72057594037927936];congr 1;omega
   obtain⟨v',w2,ea,S2,ow,fr⟩:=cU (P:=prog) S 150 150 (.int .u8 0) 1 underlying150 jG.dU rfl (.int .u8 ((N:Int) / 72057594037927936)) rfl (by unfold maxLen;omega) (by omega);obtain⟨V2,hJ,rfl⟩:=ao S2;have EA:=xh ea;have SX:=xh (show aK w2 5 1 (.slice V2 (0+1) hJ) (0+1) (dh (IQ N (0+1)))from by
    rw[hx]at S2;rw[kN,cw];exact S2)
   have OX:=xh (O.trans (ow.aO O.size F.o));have FX:=xh (show ∀x∈ah (.slice V2 (0+1) hJ),w.heap.size<=x from λx hx=>(fr x hx).elim (F.o x) (λh=>ay O.size h));clear hx ea S S2 ow fr O;go_wp2_with fail;rw[EA.o];go_wp2_with fail;go_roundw
   case rel=>exact⟨0+1,by omega,by first|rfl|simp,SX.o,OX.o,FX⟩
   case measure=>first|decide|simp[intOf]
  .have hx:Value.int .u8 ((N:Int) / 281474976710656 % 256)=bv (UInt8.ofNat (N / 281474976710656)):=rV N 281474976710656;obtain⟨v',w2,ea,S2,ow,fr⟩:=cU (P:=prog) S 150 150 (.int .u8 0) 1 underlying150 jG.dU rfl (.int .u8 ((N:Int) / 281474976710656 % 256)) rfl (by unfold maxLen;omega) (by omega);obtain⟨V2,hJ,rfl⟩:=ao S2;have EA:=xh ea;have SX:=xh (show aK w2 5 1 (.slice V2 (1+1) hJ) (1+1) (dh (IQ N (1+1)))from by
    rw[hx]at S2;rw[kN,cw];exact S2)
   have OX:=xh (O.trans (ow.aO O.size F.o));have FX:=xh (show ∀x∈ah (.slice V2 (1+1) hJ),w.heap.size<=x from λx hx=>(fr x hx).elim (F.o x) (λh=>ay O.size h));clear hx ea S S2 ow fr O;go_wp2_with fail;rw[EA.o];go_wp2_with fail;go_roundw
   case rel=>exact⟨1+1,by omega,by first|rfl|simp,SX.o,OX.o,FX⟩
   case measure=>first|decide|simp[intOf]
  .have hx:Value.int .u8 ((N:Int) / 1099511627776 % 256)=bv (UInt8.ofNat (N / 1099511627776)):=rV N 1099511627776;obtain⟨v',w2,ea,S2,ow,fr⟩:=cU (P:=prog) S 150 150 (.int .u8 0) 1 underlying150 jG.dU rfl (.int .u8 ((N:Int) / 1099511627776 % 256)) rfl (by unfold maxLen;omega) (by omega);obtain⟨V2,hJ,rfl⟩:=ao S2;have EA:=xh ea;have SX:=xh (show aK w2 5 1 (.slice V2 (2+1) hJ) (2+1) (dh (IQ N (2+1)))from by
    rw[hx]at S2;rw[kN,cw];exact S2)
   have OX:=xh (O.trans (ow.aO O.size F.o));have FX:=xh (show ∀x∈ah (.slice V2 (2+1) hJ),w.heap.size<=x from λx hx=>(fr x hx).elim (F.o x) (λh=>ay O.size h));clear hx ea S S2 ow fr O;go_wp2_with fail;rw[EA.o];go_wp2_with fail;go_roundw
   case rel=>exact⟨2+1,by omega,by first|rfl|simp,SX.o,OX.o,FX⟩
   case measure=>first|decide|simp[intOf]
  .have hx:Value.int .u8 ((N:Int) / 4294967296 % 256)=bv (UInt8.ofNat (N / 4294967296)):=rV N 4294967296;obtain⟨v',w2,ea,S2,ow,fr⟩:=cU (P:=prog) S 150 150 (.int .u8 0) 1 underlying150 jG.dU rfl (.int .u8 ((N:Int) / 4294967296 % 256)) rfl (by unfold maxLen;omega) (by omega);obtain⟨V2,hJ,rfl⟩:=ao S2;have EA:=xh ea;have SX:=xh (show aK w2 5 1 (.slice V2 (3+1) hJ) (3+1) (dh (IQ N (3+1)))from by
    rw[hx]at S2;rw[kN,cw];exact S2)
   have OX:=xh (O.trans (ow.aO O.size F.o));have FX:=xh (show ∀x∈ah (.slice V2 (3+1) hJ),w.heap.size<=x from λx hx=>(fr x hx).elim (F.o x) (λh=>ay O.size h));clear hx ea S S2 ow fr O;go_wp2_with fail;rw[EA.o];go_wp2_with fail;go_roundw
   case rel=>exact⟨3+1,by omega,by first|rfl|simp,SX.o,OX.o,FX⟩
   case measure=>first|decide|simp[intOf]
  .have hx:Value.int .u8 ((N:Int) / 16777216 % 256)=bv (UInt8.ofNat (N / 16777216)):=rV N 16777216;obtain⟨v',w2,ea,S2,ow,fr⟩:=cU (P:=prog) S 150 150 (.int .u8 0) 1 underlying150 jG.dU rfl (.int .u8 ((N:Int) / 16777216 % 256)) rfl (by unfold maxLen;omega) (by omega);obtain⟨V2,hJ,rfl⟩:=ao S2;have EA:=xh ea;have SX:=xh (show aK w2 5 1 (.slice V2 (4+1) hJ) (4+1) (dh (IQ N (4+1)))from by
    rw[hx]at S2;rw[kN,cw];exact S2)
   have OX:=xh (O.trans (ow.aO O.size F.o));have FX:=xh (show ∀x∈ah (.slice V2 (4+1) hJ),w.heap.size<=x from λx hx=>(fr x hx).elim (F.o x) (λh=>ay O.size h));clear hx ea S S2 ow fr O;go_wp2_with fail;rw[EA.o];go_wp2_with fail;go_roundw
   case rel=>exact⟨4+1,by omega,by first|rfl|simp,SX.o,OX.o,FX⟩
   case measure=>first|decide|simp[intOf]
  .have hx:Value.int .u8 ((N:Int) / 65536 % 256)=bv (UInt8.ofNat (N / 65536)):=rV N 65536;obtain⟨v',w2,ea,S2,ow,fr⟩:=cU (P:=prog) S 150 150 (.int .u8 0) 1 underlying150 jG.dU rfl (.int .u8 ((N:Int) / 65536 % 256)) rfl (by unfold maxLen;omega) (by omega);obtain⟨V2,hJ,rfl⟩:=ao S2;have EA:=xh ea;have SX:=xh (show aK w2 5 1 (.slice V2 (5+1) hJ) (5+1) (dh (IQ N (5+1)))from by
    rw[hx]at S2;rw[kN,cw];exact S2)
   have OX:=xh (O.trans (ow.aO O.size F.o));have FX:=xh (show ∀x∈ah (.slice V2 (5+1) hJ),w.heap.size<=x from λx hx=>(fr x hx).elim (F.o x) (λh=>ay O.size h));clear hx ea S S2 ow fr O;go_wp2_with fail;rw[EA.o];go_wp2_with fail;go_roundw
   case rel=>exact⟨5+1,by omega,by first|rfl|simp,SX.o,OX.o,FX⟩
   case measure=>first|decide|simp[intOf]
  .have hx:Value.int .u8 ((N:Int) / 256 % 256)=bv (UInt8.ofNat (N / 256)):=rV N 256;obtain⟨v',w2,ea,S2,ow,fr⟩:=cU (P:=prog) S 150 150 (.int .u8 0) 1 underlying150 jG.dU rfl (.int .u8 ((N:Int) / 256 % 256)) rfl (by unfold maxLen;omega) (by omega);obtain⟨V2,hJ,rfl⟩:=ao S2;have EA:=xh ea;have SX:=xh (show aK w2 5 1 (.slice V2 (6+1) hJ) (6+1) (dh (IQ N (6+1)))from by
    rw[hx]at S2;rw[kN,cw];exact S2)
   have OX:=xh (O.trans (ow.aO O.size F.o));have FX:=xh (show ∀x∈ah (.slice V2 (6+1) hJ),w.heap.size<=x from λx hx=>(fr x hx).elim (F.o x) (λh=>ay O.size h));clear hx ea S S2 ow fr O;go_wp2_with fail;rw[EA.o];go_wp2_with fail;go_roundw
   case rel=>exact⟨6+1,by omega,by first|rfl|simp,SX.o,OX.o,FX⟩
   case measure=>first|decide|simp[intOf]
  .have hx:Value.int .u8 ((N:Int) % 256)=bv (UInt8.ofNat N):=IU N;obtain⟨v',w2,ea,S2,ow,fr⟩:=cU (P:=prog) S 150 150 (.int .u8 0) 1 underlying150 jG.dU rfl (.int .u8 ((N:Int) % 256)) rfl (by unfold maxLen;omega) (by omega);obtain⟨V2,hJ,rfl⟩:=ao S2;have EA:=xh ea;have SX:=xh (show aK w2 5 1 (.slice V2 (7+1) hJ) (7+1) (dh (IQ N (7+1)))from by
    rw[hx]at S2;rw[kN,cw];exact(by rw[eU,Nat.pow_zero,Nat.div_one];exact S2))
   have OX:=xh (O.trans (ow.aO O.size F.o));have FX:=xh (show ∀x∈ah (.slice V2 (7+1) hJ),w.heap.size<=x from λx hx=>(fr x hx).elim (F.o x) (λh=>ay O.size h));clear hx ea S S2 ow fr O;go_wp2_with fail;rw[EA.o];go_wp2_with fail;go_roundw
   case rel=>exact⟨7+1,by omega,by first|rfl|simp,SX.o,OX.o,FX⟩
   case measure=>first|decide|simp[intOf]
  .have SX:=xh S;have OX:=xh O;clear S O;go_wp2_with fail;go_ret;exact⟨⟨_,rfl,SX.o⟩,OX.o⟩
def dj(n:Int):List UInt8:=vP ((n+9223372036854775808) % 18446744073709551616).toNat
theorem I_any(n:Int)(h0:0<=n)(h1:n<=1099511627776)(w:World):
  Calls prog 88 #[.int .i64 n] w λe w'=>e=.returned (.string ⟨(dj n).toArray⟩)/\Below w.heap.size w w':=by
 obtain⟨m,rfl⟩:=dL h0;have hN:(((m:Int)+9223372036854775808) % 18446744073709551616).toNat=m+9223372036854775808:=by omega
 have hNI:((m+9223372036854775808:Nat):Int)=(m:Int)+9223372036854775808:=by omega
 have K:=xh (jg (m+9223372036854775808) (by omega) w);rw[hNI]at K;unfold dj;rw[hN];have e1:IntKind.u64.wrap (m:Int)=(m:Int):=IntWalk.u64_in _ (by omega);have e2:IntKind.u64.wrap ((m:Int)+9223372036854775808)=(m:Int)+9223372036854775808:=IntWalk.u64_in _ (by omega);clear hN hNI;go_enter func88,ntmps88;go_wp2_with fail;refine K.o.mono ?_;rintro e w1 ⟨⟨v,rfl,S⟩,hb⟩;obtain⟨g,cap,rest,rfl,B,hc,_⟩:=S.form (by omega) (by omega)
 have ST:=xh (bZ (P:=prog) w1 150 9 5 underlying150 underlying5 underlying9 ⟨g,0,none⟩ 8 cap (vP (m+9223372036854775808)) rfl (bn B 0 _ (by intro j u hu;rw[bh];exact bD (aX.1 hu).1▸hu)));have HB:=xh hb;clear hb S B;go_wp2_with fail;rw[ST.o];go_wp2_with fail;go_ret;exact⟨rfl,HB.o⟩
end Pk
namespace Pk
open Go.RowKit
def lJ(l:List UInt8):Nat:=l.foldl (λn b=>n*256+b.toNat) 0
theorem Fq(l:List UInt8)(b:UInt8):lJ (l++[b])=lJ l*256+b.toNat:=by simp[lJ]
theorem beN_lt'(l:List UInt8):∀n:Nat,l.foldl (λn b=>n*256+b.toNat) n<(n+1)*256 ^ l.length:=by
 induction l with
 |nil=>intro n;simp
 |cons b l ih=>
  intro n;have h1:=ih (n*256+b.toNat);have h2:=b.toNat_lt;rw[Db,ff,xA];refine tf h1 ?_;rw[show(n+1)*(256 ^ l.length*256)=((n+1)*256)*256 ^ l.length by rw[Dq,tg (256 ^ l.length) 256]];exact Dr _ (by omega)
theorem uz(l:List UInt8):lJ l<256 ^ l.length:=by
 have:=beN_lt' l 0;rw[bh,Nat.one_mul]at this;exact this
theorem or_join(n b:Nat)(hn:n<72057594037927936)(hb:b<256):bits .or .u64 ((n:Int)*256) (b:Int)=((n*256+b:Nat):Int):=by
 have h:=bits_or_u64_nat (n*256) b (by omega) (by omega);rw[show((n*256:Nat):Int)=(n:Int)*256 by omega]at h;rw[h];have:=Nat.two_pow_add_eq_or_of_lt (i:=8) hb n;rw[show 2 ^ 8*n=n*256 by omega]at this;rw[<-this]
theorem xD(s:ByteArray)(hs:s.size=8)(w:World):
  Calls prog 187 #[.string s] w λe w'=>e=.returned (.int .u64 (lJ s.data.toList:Nat))/\Below w.heap.size w w':=by
 have HL:=xh (show s.data.toList.length=8 from by simpa using hs);go_enter func187,ntmps187;go_wp2_with fail
 go_loopw [3,7] (λnv iv wr=> ∃(i:Nat),i<=8/\nv=.int .u64 (lJ (s.data.toList.take i):Nat)/\iv=.int .i64 i/\Below w.heap.size w wr) (λ_ iv _=>8-(intOf iv).toNat)
 case atStart=>exact⟨0,by omega,by simp[lJ],rfl,Below.refl _ _⟩
 case round=>
  obtain⟨i,hi,rfl,rfl,O⟩:=hrel
  by_cases h:i<8
  .have hsi:i<s.size:=by omega
   have hlen:=HL.o;have hT:s.data.toList.take (i+1)=s.data.toList.take i++[s[i]]:=by
    rw[jO (by omega)];rfl
   have dV:=uz (s.data.toList.take i);rw[bK]at dV;have hlt2:lJ (s.data.toList.take i)<72057594037927936:=tf dV (ay (xy (by omega) (show min i s.data.toList.length<=7 by omega)) (by decide));have hN:lJ (s.data.toList.take (i+1))=lJ (s.data.toList.take i)*256+s[i].toNat:=by rw[hT,Fq]
   obtain⟨n,hn⟩:∃n,lJ (s.data.toList.take i)=n:=⟨_,rfl⟩;rw[hn]at hlt2 hN ⊢;have hb:=s[i].toNat_lt;have HV:=xh (or_join n s[i].toNat hlt2 hb);have HN:=xh hN;have hiI:(i:Int)<8:=by omega
   have hiS:(i:Int)<(s.size:Int):=by omega
   have v1:IntKind.u64.wrap (s[i].toNat:Int)=(s[i].toNat:Int):=IntWalk.u64_in _ (by omega);have v2:IntKind.u64.wrap ((n:Int)*256)=(n:Int)*256:=IntWalk.u64_in _ (by omega);have OX:=xh O;clear hT dV hN hn O;go_wp2_with fail;rw[HV.o];exact⟨⟨i+1,by omega,by rw[HN.o],by go_num,OX.o⟩,by simp[intOf];omega⟩
  .obtain rfl:i=8:=by omega
   have hlen:=HL.o;have OX:=xh O;rw[bY (by omega)];clear O;go_wp2_with fail;go_ret;exact⟨rfl,OX.o⟩
theorem Qz(s:ByteArray)(at_ n:Int)(w:World)(h0:0<=at_)(h1:at_+n<=s.size)(hn:0<=n)(hs:s.size<=1000000):
  Calls prog 186 #[.string s,.int .i64 at_,.int .i64 n] w λe w'=>e=.returned (.int .i64 0)/\Below w.heap.size w w':=by
 have a1:¬at_<0:=by omega
 have a2:¬(s.size:Int)<at_:=by omega
 have a3:IntKind.i64.wrap ((s.size:Int)-at_)=(s.size:Int)-at_:=IntWalk.i64_in _ (by omega);have a4:¬(s.size:Int)-at_<n:=by omega
 go_enter func186,ntmps186;go_wp2_with fail;go_ret;exact⟨rfl,Below.refl _ _⟩
theorem Bk(s:ByteArray)(k:Nat)(w:World)(h1:k+8<=s.size)(hs:s.size<=1000000):
  Calls prog 142 #[.string s,.int .i64 (k:Nat)] w λe w'=>e=.returned (.tuple #[.int .u64 (lJ ((s.extract k (k+8)).data.toList):Nat),.int .i64 ((k:Int)+8),.int .i64 0])/\Below w.heap.size w w':=by
 have mM:(s.extract k (k+8)).size=8:=by rw[um];omega
 have KL:=xh (Qz s (k:Nat) 8 w (by omega) (by omega) (by omega) hs);have KG:=xh (λw=>xD (s.extract k (k+8)) mM w);obtain⟨N,hN⟩:∃N,lJ ((s.extract k (k+8)).data.toList)=N:=⟨_,rfl⟩;rw[hN]at KG ⊢;clear hN;have e1:IntKind.i64.wrap ((k:Int)+8)=(k:Int)+8:=IntWalk.i64_in _ (by omega);have e2:(0:Int)<=(k:Int)+8:=by omega
 have e3:((k:Int)+8).toNat=k+8:=by omega
 have e4:(k:Int)<=(k:Int)+8:=by omega
 have e5:(k:Int)+8<=(s.size:Int):=by omega
 go_enter func142,ntmps142;go_wp2_with fail;refine KL.o.mono ?_;rintro e w1 ⟨rfl,aJ⟩;have O1:=xh aJ;clear aJ;go_wp2_with fail;refine(KG.o _).mono ?_;rintro e w2 ⟨rfl,bS⟩;have O2:=xh (au O1.o bS);clear bS;go_wp2_with fail
 go_ret3
 exact⟨rfl,O2.o⟩
theorem qG(s:ByteArray)(k:Nat)(w:World)(h1:k+8<=s.size)(hs:s.size<=1000000):
  Calls prog 89 #[.string s,.int .i64 (k:Nat)] w λe w'=>e=.returned (.tuple #[.int .i64 ((lJ ((s.extract k (k+8)).data.toList):Int)-9223372036854775808),.int .i64 ((k:Int)+8),.int .i64 0])/\Below w.heap.size w w':=by
 have mM:(s.extract k (k+8)).size=8:=by rw[um];omega
 have dV:=uz (s.extract k (k+8)).data.toList;rw[show(s.extract k (k+8)).data.toList.length=8 from mM]at dV;have KU:=xh (Bk s k w h1 hs);obtain⟨N,hN⟩:∃N,lJ ((s.extract k (k+8)).data.toList)=N:=⟨_,rfl⟩;rw[hN]at KU dV ⊢;have HV:=xh (show wrap64 (IntKind.u64.wrap ((N:Int)+9223372036854775808))=(N:Int)-9223372036854775808 from by
  rw[IntKind.wrap_u64];unfold wrap64;omega)
 clear hN dV mM;go_enter func89,ntmps89;go_wp2_with fail;refine KU.o.mono ?_;rintro e w1 ⟨rfl,aJ⟩;have O1:=xh aJ;clear aJ;go_wp2_with fail
 go_ret3
 refine⟨?_,O1.o⟩;have hv:=HV.o;simp only[Array.getD_eq_getD_getElem?,cM,pA,rR,n8,hv]
end Pk
end Go.Proofs.YtmonobkginiajaaGreat
