/- packed. -/
import Derived.Deep.RegionHeld
import Derived.Test.YtmonobkginiajaaGreatRows
import Derived.WalkKit
import Derived.Handy
import Derived.Deep.DrawnRows
import Derived.ProofKit
import Derived.OpenShut
import Derived.SizedLaws
import Derived.JoinedCond
import Derived.WalkLawsBesides
import Derived.WalkSpells
import Derived.Lib.Hide
import Derived.Laws.CopyOwn
import Derived.Deep.Draws
import Derived.Laws.Rows
import Derived.SliceStrings
import Derived.OrdersHeld
import Derived.Deep.QuietTactic
import Derived.BigQuiet
import Derived.Laws.Bits64b
import Derived.Lib.AppendStr
import Derived.Deep.LoopGhost
import Derived.Deep.DrawnRows
import Derived.Laws.ResultCell
import Derived.Deep.RegionHeld3
set_option linter.all false
set_option maxRecDepth 100000
set_option maxHeartbeats 8000000
abbrev ByteArray.pu(s:ByteArray):List UInt8:=s.data.toList
namespace Go
def RowKit.Hid.o{p:Prop}(h:RowKit.Hid p):p:=h
def Shut.o{p:Prop}(h:Shut p):p:=h
def RowKit.Hid.ap{w:World}{g:Nat}{t:TypeId}{cs:Array Value}(h:RowKit.Hid (∃lo hi,w.heap[g]?=some (.cells cs t (lo,hi))/\(lo=hi\/cs.size<=lo)))(i:Nat){v:Value}(hv:cs[i]?=some v:=by exact rfl):w.cell? ⟨g,i,none⟩=some v:=by
 obtain⟨lo,hi,h,_⟩:=h.o;exact(cell_of_row w g i cs t (lo,hi) h).trans hv
def RowKit.Hid.dl{P:Program}{f:FuncId}{args:Array Value}{w:World}{R R':Ending->World->Prop}(h:RowKit.Hid (Calls P f args w R))(hr:∀e w',R e w'->R' e w'):Calls P f args w R':=h.o.mono hr
end Go
namespace Go.Proofs.YtmonobkginiajaaGreat
open Go.Proofs.Tryz
def U8:=@if_pos
def U9:=@if_neg
def wn:=@decide_eq_false
def ww:=@decide_eq_true
def eq:=@absurd
abbrev UV:=List UInt8
abbrev Nm:=ByteArray
open Value renaming string→U7,slice→U3,int→U5,tuple→rg
open Ending renaming returned→fd
open IntKind renaming i64→U6,u8→ut
open Obj renaming cells→Pi
open Go renaming World→BY,Value→By,Calls→io,maxLen→sh,TypeId→us
open List renaming replicate→it
open UInt8 renaming ofNat→wf
section
def xh{p:Prop}(h:p):RowKit.Hid p:=h
def zal0q:=@Array.eq_empty_of_size_eq_zero
def Xq:=@Array.getD_eq_getD_getElem?
def Xr:=@Array.getElem?_eq_none
def Xs:=@Array.length_toList
def Sy:=@Array.toList_extract
def rk:=@Array.toList_inj
def jI:=@Bool.and_eq_true
def oH:=@Bool.false_eq_true
def Xt:=@Bool.not_eq_true
def zW:=@Bool.or_eq_true
def ON:=@Bool.true_and
def IL:=@ByteArray.data_extract
def mP:=@ByteArray.ext
def Cw:=@ByteArray.size_append
def rK:=@ByteArray.size_extract
def IM:=@Int.add_sub_cancel
def fu:=@Int.eq_ofNat_of_zero_le
def dG:=@Int.le_refl
def OP:=@Int.tdiv_eq_ediv_of_nonneg
def iL:=@Int.toNat_natCast
def rL:=@List.all_eq_true
def OQ:=@List.any_eq_true
def cV:=@List.append_assoc
def OR:=@List.append_eq_nil_iff
def OT:=@List.append_inj'
def kM:=@List.append_nil
def oZ:=@List.cons_append
def Cx:=@List.countP_append
def yj:=@List.countP_congr
def Cy:=@List.countP_eq_length_filter
def OU:=@List.countP_eq_zero
def yk:=@List.countP_le_length
def IP:=@List.countP_map
def OV:=@List.count_append
def OY:=@List.count_cons
def rM:=@List.drop_append_of_le_length
def jF:=@List.drop_drop
def vi:=@List.drop_eq_getElem_cons
def lT:=@List.drop_eq_nil_of_le
def vj:=@List.drop_left
def Pc:=@List.drop_length
def Cz:=@List.drop_of_length_le
def CA:=@List.drop_succ_cons
def CB:=@List.drop_zero
def pf:=@List.eq_nil_of_length_eq_zero
def vk:=@List.eq_nil_or_concat
def jQ:=@List.eq_of_mem_replicate
def ym:=@List.exists_mem_of_ne_nil
def vq:=@List.ext_getElem
def lr:=@List.ext_getElem?
def IQ:=@List.extract_eq_take_drop
def yo:=@List.filter_append
def lu:=@List.filter_cons
def Pd:=@List.filter_eq_nil_iff
def yp:=@List.filter_eq_self
def IU:=@List.filter_filter
def IV:=@List.filter_sublist
def Pe:=@List.findIdx_cons
def rN:=@List.findIdx_getElem
def qt:=@List.findIdx_le_length
def Pf:=@List.findIdx_lt_length
def rO:=@List.flatMap_append
def jg:=@List.flatMap_cons
def CD:=@List.foldl_cons
def Ph:=@List.foldl_nil
def jG:=@List.getD_eq_getElem?_getD
def bX:=@List.getElem?_append_left
def eC:=@List.getElem?_append_right
def yq:=@List.getElem?_cons_succ
def CE:=@List.getElem?_cons_zero
def iu:=@List.getElem?_drop
def aQ:=@List.getElem?_eq_getElem
def fw:=@List.getElem?_eq_none
def aW:=@List.getElem?_eq_some_iff
def iM:=@List.getElem?_map
def ko:=@List.getElem?_of_mem
def IW:=@List.getElem?_range
def CF:=@List.getElem?_replicate
def kq:=@List.getElem?_set
def fW:=@List.getElem?_set_ne
def eK:=@List.getElem?_set_self
def rP:=@List.getElem?_take
def kr:=@List.getElem?_take_of_lt
def dr:=@List.getElem?_toArray
def IY:=@List.getElem_map
def jR:=@List.getElem_mem
def qu:=@List.getElem_of_mem
def yr:=@List.getElem_range
def Pj:=@List.insertIdx_succ_cons
def bC:=@List.length_append
def jh:=@List.length_cons
def ef:=@List.length_drop
def IZ:=@List.length_eq_zero_iff
def Pm:=@List.length_eraseIdx_of_lt
def Xu:=@List.length_erase_of_mem
def I0:=@List.length_filter_le
def I1:=@List.length_insertIdx
def eZ:=@List.length_map
def CG:=@List.length_nil
def I2:=@List.length_pos_iff
def eG:=@List.length_replicate
def bR:=@List.length_set
def wC:=@List.length_singleton
def bY:=@List.length_take
def eS:=@List.map_append
def gm:=@List.map_congr_left
def iA:=@List.map_cons
def iQ:=@List.map_map
def tD:=@List.map_nil
def Bl:=@List.map_set
def mZ:=@List.map_take
def aK:=@List.mem_append
def cL:=@List.mem_append_left
def cv:=@List.mem_append_right
def ax:=@List.mem_cons
def aH:=@List.mem_cons_of_mem
def ie:=@List.mem_cons_self
def iB:=@List.mem_filter
def oI:=@List.mem_flatMap
def I3:=@List.mem_iff_getElem?
def dq:=@List.mem_map
def wD:=@List.mem_map_of_mem
def ay:=@List.mem_of_getElem?
def tE:=@List.mem_of_mem_drop
def wE:=@List.mem_of_mem_tail
def iR:=@List.mem_of_mem_take
def oJ:=@List.mem_or_eq_of_mem_set
def mf:=@List.mem_range
def aG:=@List.mem_singleton
def dD:=@List.nil_append
def jJ:=@List.nodup_append
def iC:=@List.nodup_cons
def Sz:=@List.nodup_iff_pairwise_ne
def qv:=@List.nodup_nil
def iD:=@List.not_mem_nil
def Bm:=@List.not_of_lt_findIdx
def eH:=@List.pairwise_append
def eT:=@List.pairwise_cons
def I4:=@List.pairwise_iff_getElem
def Bn:=@List.pairwise_map
def I5:=@List.pairwise_singleton
def I6:=@List.perm_iff_count
def I8:=@List.range_succ
def Bo:=@List.replicate_succ'
def I9:=@List.replicate_zero
def tF:=@List.setIfInBounds_toArray
def Bq:=@List.set_append_left
def tG:=@List.set_append_right
def ly:=@List.set_set
def wG:=@List.singleton_append
def mh:=@List.size_toArray
def Br:=@List.sum_append
def mi:=@List.sum_cons
def mj:=@List.tail_cons
def wH:=@List.take_add_one
def mo:=@List.take_append_drop
def lz:=@List.take_append_of_le_length
def tI:=@List.take_left
def ig:=@List.take_length
def cR:=@List.take_of_length_le
def oK:=@List.take_succ_cons
def ij:=@List.take_succ_eq_append_getElem
def Ja:=@List.take_take
def jK:=@List.take_zero
def qx:=@Nat.add_sub_cancel
def mq:=@Nat.add_zero
def wI:=@Nat.eq_zero_or_pos
def Jb:=@Nat.le_add_right
def Bt:=@Nat.le_of_eq
def Jc:=@Nat.le_of_succ_le_succ
def ai:=@Nat.le_refl
def aD:=@Nat.le_trans
def Bu:=@Nat.lt_irrefl
def qy:=@Nat.lt_of_lt_of_le
def fo:=@Nat.lt_or_ge
def oL:=@Nat.lt_succ_iff_lt_or_eq
def Bv:=@Nat.lt_trichotomy
def tJ:=@Nat.min_eq_left
def qz:=@Nat.mod_lt
def Bw:=@Nat.mod_two_eq_zero_or_one
def tK:=@Nat.mul_add
def Jd:=@Nat.mul_assoc
def tL:=@Nat.mul_comm
def m7:=@Nat.mul_le_mul_left
def wJ:=@Nat.mul_zero
def Bx:=@Nat.not_lt
def lA:=@Nat.not_lt_zero
def Je:=@Nat.pow_le_pow_right
def ik:=@Nat.sub_self
def bV:=@Nat.zero_add
def bG:=@Nat.zero_le
def qA:=@Nat.zero_mul
def j0:=@Option.getD_some
def mr:=@Option.map_some
def mu:=@Prod.ext
def Bz:=@UInt8.lt_iff_toNat_lt
def j5:=@UInt8.toNat_ofNat'
open Go.ChangeShapes Go.WideShapes Go.ChangeAt Go.RowKit
variable{P:Program}{W W':BY}
def own:ownKnob prog.godebug=none:=by kernel_rfl
def laidOut:laidOutB prog=true:=by kernel_rfl
def Gc{H:Type}{enc:us×By->H}(hl:laidOutB P=true)(hb:Below W.heap.size W W'):
  ∀(ts:List us) (vs:List By) (ds:List (DataW H)) (ps:List MemPlace),ts.all (λt=>P.readableRec t && decide (t<P.types.size))=true->
   DataW.TrodAll enc P W 0 (λ_=>true) true ts vs ds ps->(∀x∈ps,x.block<W.heap.size)->
   DataW.TrodAll enc P W' 0 (λb=>decide (b<W.heap.size)) true ts vs ds ps:=by
 intro ts
 induction ts with
 |nil=>
  intro vs ds ps _ h _;obtain⟨rfl,rfl,rfl⟩:=trodAll_nil h;exact trodAll_mk0
 |cons t ts ih=>
  intro vs ds ps ht h dP;obtain⟨v,vs',d,ds',p,q,rfl,rfl,rfl,h1,h2⟩:=trodAll_cons h;simp only[List.all_cons,Bool.and_eq_true,decide_eq_true_eq]at ht;obtain⟨⟨hr,hs⟩,ht'⟩:=ht;refine trodAll_cons_mk (Below.trod hl hr hs h1 hb λx hx=>dP x (List.mem_append_left _ hx)) (ih _ _ _ (by simpa using ht') h2 λx hx=>dP x (List.mem_append_right _ hx))
def Xv{H:Type}{enc:us×By->H}(hl:laidOutB P=true){f:Func}{s:ChangeSpec}{tb:us}{args:Array By}{ds gs:List (DataW H)}{before:List MemPlace}
 (hW:DataW.Whole enc P f.params.toList s.vars false W args.toList ds gs before)(hv:s.vars=[])
 (hp:f.params.toList.all (λt=>P.readableRec t && decide (t<P.types.size))=true)(hr:f.resultTypes= #[tb])(htb:P.underlying tb=some .bool)
 (hfn:s.fn H ds={results:=[.lit (.bool true)],args:=ds})(hb:Below W.heap.size W W'):
  s.post enc P f false true false false W args (.bool true) W':=by
 have hW':=hW;obtain⟨p,q,hA,hV,rfl,Xw,Gx⟩:=hW;rw[hv]at hV;obtain⟨rfl,rfl⟩:=trodVars_none hV;have dP:=hW'.lt;refine⟨ds,[],_,[],p,[],hW',?_,?_,?_,hb.frame _,λh=>by cases h⟩
 .rw[List.append_nil,hfn,hr];exact trodAll_cons_mk (p':=[]) (shut_bool htb true) trodAll_mk0
 .rw[List.append_nil,hfn];exact Gc hl hb _ _ _ _ hp hA λx hx=>by simpa using dP x (List.mem_append_left _ hx)
 .rw[hv,List.append_nil,hfn];exact rfl
open Go.RowKit
variable{B o g:Nat}{p a:Addr}{v:By}{t' t:us}{cs':Array By}{w w':BY}{P:Program}{cur cs l:List By}
def aM(w:BY)(g:Nat)(t:us)(cs:Array By):Prop:= ∃lo hi,w.heap[g]?=some (Pi cs t (lo,hi))/\(lo=hi\/cs.size<=lo)
structure ah(S:List Nat)(w w':BY):Prop where
 os:w'.os=w.os
 tape:w'.tape=w.tape
 output:w'.output=w.output
 size:w.heap.size<=w'.heap.size
 block:∀k,k<w.heap.size->k∉S->w'.heap[k]?=w.heap[k]?
section
variable{w w' Ur:BY}{g:Nat}{t:us}{cs:Array By}{S S':List Nat}
def ah.refl(S:List Nat)(w:BY):ah S w w:=⟨rfl,rfl,rfl,Nat.le_refl _,λ_ _ _=>rfl⟩
def ah.bj(h:ah S w w')(k:ah S' w' Ur)(hs:∀x∈S',x<w.heap.size->x∈S):ah S w Ur:=
 ⟨k.os.trans h.os,k.tape.trans h.tape,k.output.trans h.output,Nat.le_trans h.size k.size,λb hb hn=>
  (k.block b (Nat.lt_of_lt_of_le hb h.size) (λhm=>hn (hs b hm hb))).trans (h.block b hb hn)⟩
def ah.trans(h:ah S w w')(k:ah S w' Ur):ah S w Ur:=h.bj k λ_ hx _=>hx
def ah.mono(h:ah S w w')(hs:∀x∈S,x<w.heap.size->x∈S'):ah S' w w':=
 ⟨h.os,h.tape,h.output,h.size,λb hb hn=>h.block b hb λhm=>hn (hs b hm hb)⟩
def ah.aj(h:Below w.heap.size w w'):ah S w w':=⟨h.os,h.tape,h.output,h.size,λb hb _=>h.block b hb⟩
def ah.below(h:ah S w w')(hs:∀x∈S,w.heap.size<=x):Below w.heap.size w w':=
 ⟨h.os,h.tape,h.output,h.size,λb hb=>h.block b hb λhm=>by have:=hs b hm;omega⟩
def ah.bI(h:ah S w w')(hB:B<=w.heap.size)(hs:∀x∈S,B<=x):Below B w w':=
 ⟨h.os,h.tape,h.output,h.size,λb hb=>h.block b (by omega) λhm=>by have:=hs b hm;omega⟩
def ah.gq(h:ah [] w w'):Below w.heap.size w w':=h.below (by simp)
def ah.drew(h:ah S w w'):ah S w w'.drew:=⟨h.os,h.tape,h.output,h.size,h.block⟩
def ah.drewN(h:ah S w w')(n:Nat):ah S w (w'.drewN n):=⟨h.os,h.tape,h.output,h.size,h.block⟩
def ah.alloc(h:ah S w w')(o:Obj):ah S w (w'.alloc o):=
 h.trans ⟨rfl,rfl,rfl,by simp,λb hb _=>Below.heap_alloc _ _ _ hb⟩
def ah.setCell(h:ah S w w')(hp:p.block<w.heap.size->p.block∈S)(v:By):ah S w (w'.setCell p v):=
 ⟨h.os,h.tape,h.output,Nat.le_trans h.size (by simp[World.setCell]),λb hb hn=>
  (Below.heap_setCell _ _ _ _ (λe=>hn (by subst e;exact hp hb))).trans (h.block b hb hn)⟩
def ah.grown{row:Option Nat}(h:ah S w w')(hg:w'.grownBy Ur row)(hr:∀k,row=some k->k<w.heap.size->k∈S):ah S w Ur:=
 ⟨hg.os.trans h.os,hg.tape.trans h.tape,hg.output.trans h.output,Nat.le_trans h.size hg.size,λb hb hn=>
  (hg.block b (Nat.lt_of_lt_of_le hb h.size) (λe=>hn (hr b e.symm hb))).trans (h.block b hb hn)⟩
def ah.cell(h:ah S w w')(hp:p.block<w.heap.size)(hn:p.block∉S):w'.cell? p=w.cell? p:=World.cell?_of_block (w:=w) (h.block p.block hp hn)
def ah.frozen(h:ah S w w')(hp:p.block<w.heap.size)(hn:p.block∉S):w'.frozen? p=w.frozen? p:=World.frozen?_of_block (w:=w) (h.block p.block hp hn)
def aM.of_eq(h:w.heap[g]?=some (Pi cs t (0,0))):aM w g t cs:=⟨0,0,h,.inl rfl⟩
def aM.of_same(h:aM w g t cs)(e:w'.heap[g]?=w.heap[g]?):aM w' g t cs:=by
 obtain⟨lo,hi,h1,h2⟩:=h;exact⟨lo,hi,e.trans h1,h2⟩
def aM.lt(h:aM w g t cs):g<w.heap.size:=by
 obtain⟨lo,hi,h,_⟩:=h
 rcases Nat.lt_or_ge g w.heap.size with dP|CH
 .exact dP
 .rw[Array.getElem?_eq_none CH]at h;cases h
def aM.cell(h:aM w g t cs)(i:Nat):w.cell? ⟨g,i,none⟩=cs[i]?:=by
 obtain⟨lo,hi,h,_⟩:=h;exact cell_of_row w g i cs t (lo,hi) h
def aM.ae(h:aM w g t cs){i:Nat}(hv:cs[i]?=some v):w.cell? ⟨g,i,none⟩=some v:=(h.cell i).trans hv
def aM.frozen(h:aM w g t cs)(i:Nat)(hi:i<cs.size):w.frozen? ⟨g,i,none⟩=false:=by
 obtain⟨lo,pk,h,h2⟩:=h;simp only[World.frozen?,h]
 rcases h2 with rfl|h2
 .simp
 .simp;omega
def aM.new(w:BY)(t:us)(cs:Array By):aM (w.alloc (Pi cs t)) w.heap.size t cs:= .of_eq (heap_alloc_new w _)
def aM.drew(h:aM w g t cs):aM w.drew g t cs:=h
def aM.drewN(h:aM w g t cs)(n:Nat):aM (w.drewN n) g t cs:=h
def aM.alloc(h:aM w g t cs)(o:Obj):aM (w.alloc o) g t cs:=h.of_same (Below.heap_alloc w o g h.lt)
def aM.ct(h:aM w g t cs)(i:Nat)(u:By):aM (w.setCell ⟨g,i,none⟩ u) g t (cs.setIfInBounds i u):=by
 obtain⟨lo,hi,h,h2⟩:=h;exact⟨lo,hi,by simp[World.setCell,Array.getElem?_modify,h],by simpa using h2⟩
def aM.bh(h:aM w g t cs)(hp:g≠p.block)(u:By):aM (w.setCell p u) g t cs:=h.of_same (Below.heap_setCell w p u g hp)
def aM.below(h:aM w g t cs)(hb:Below B w w')(hg:g<B):aM w' g t cs:=h.of_same (hb.block g hg)
def aM.only(h:aM w g t cs)(hb:ah S w w')(hg:g∉S):aM w' g t cs:=h.of_same (hb.block g h.lt hg)
def aM.inj(h:aM w g t cs)(h':aM w g t' cs'):t=t'/\cs=cs':=by
 obtain⟨lo,hi,h,_⟩:=h;obtain⟨lo',pk,h',_⟩:=h';rw[h]at h';injection h' with h'
 injection h' with e1 e2
 exact⟨e2,e1⟩
def aM.mx{g':Nat}(h:aM w g t cs)(h':aM w g' t' cs')(fy:t≠t'):g≠g':=by
 rintro rfl;exact fy (h.inj h').1
end
def dC(h:Below B w w')(n:Nat):Below B w (w'.drewN n):=⟨h.os,h.tape,h.output,h.size,h.block⟩
def cM(s:Nm):s.toList=s.data.toList:=ByteArray.toList_eq s
def vr(l:UV)(s:Nm):(⟨l.toArray⟩++s:Nm)=⟨(l++s.data.toList).toArray⟩:=by
 apply ByteArray.ext;rw[ByteArray.data_append];simp
def aE{a b:BY}(h:Below w.heap.size w a)(k:Below a.heap.size a b):Below w.heap.size w b:=h.trans (k.mono h.size)
def ji(a:Addr)(n:Nat):(a.add n).block=a.block:=by unfold Addr.add;split<;>rfl
def Pn(a:Addr)(i j:Nat):(a.add i).add j=a.add (i+j):=by
 unfold Addr.add
 by_cases hi:i=0<;>by_cases hj:j=0<;>simp[hi,hj,Nat.add_assoc]
def dU(h:w.cell? a=some v):a.block<w.heap.size:=by
 rcases Nat.lt_or_ge a.block w.heap.size with dP|CH
 .exact dP
 .simp[World.cell?,Array.getElem?_eq_none CH]at h
def wK{k:Nat}(h:w.cell? (a.add k)=some v):a.block<w.heap.size:=by
 rcases Nat.lt_or_ge a.block w.heap.size with dP|CH
 .exact dP
 .simp[World.cell?,ji,Array.getElem?_eq_none CH]at h
def bv(b:UInt8):By:=U5 ut (b.toNat:Int)
def fq(l:UV):List By:=l.map bv
@[simp] theorem jS(l:UV):(fq l).length=l.length:=by simp[fq]
def jT(l m:UV):fq (l++m)=fq l++fq m:=by simp[fq]
def tM(l:UV)(i:Nat):(fq l)[i]?=l[i]?.map bv:=by simp[fq]
def tN(l:UV):∀v∈fq l,v.oneCell'=true:=by
 intro v hv;obtain⟨b,_,rfl⟩:=List.mem_map.1 hv;rfl
def foldl_push(l:UV):∀s:Nm,(l.map λb=>(b.toNat:Int)).foldl (λr n=>r.push (wf n.toNat)) s=⟨(s.data.toList++l).toArray⟩:=by
 induction l with
 |nil=>intro s;cases s;simp
 |cons b l ih=>
  intro s;simp only[List.map_cons,List.foldl_cons];rw[ih]
  congr 1
  simp[ByteArray.push]
def cQ(w:BY)(src dst e:us)(hs:P.underlying src=some (.slice e))(he:P.underlying e=some (.int ut))(hd:P.underlying dst=some .string)
 (a:Addr)(len cap:Nat)(l:UV)(hl:l.length=len)(hc:∀j v,(fq l)[j]?=some v->w.cell? (a.add j)=some v):
  (convert src dst (U3 (some a) len cap)).run P w=.ok (U7 ⟨l.toArray⟩) w:=by
 subst hl;rw[run_convert_bytes_string w src dst e (some a) l.length cap hs he hd];have h:=run_loadCells_list (P:=P) w a (fq l) hc;rw[jS]at h;have e2:fq l=(l.map λb=>(b.toNat:Int)).map (Value.int ut):=by simp[fq,bv]
 rw[e2]at h;rw[run_bytesToString w a l.length cap _ h,foldl_push];simp
def putAt(cur:List By)(o:Nat)(cs:List By):List By:=cur.take o++cs++cur.drop (o+cs.length)
def yt(cur:List By)(o:Nat):putAt cur o []=cur:=by simp[putAt]
def lB(h:o+cs.length<=cur.length):(putAt cur o cs).length=cur.length:=by
 simp[putAt];omega
def jB(z:By)(n:Nat):madeCells #[z] n=(it n z).toArray:=by
 apply Array.ext
 .simp[size_madeCells]
 .intro i h1 h2;simp[madeCells,Nat.mod_one]
def Po(h:o<cur.length):putAt (cur.set o v) (o+1) cs=putAt cur o (v::cs):=by
 unfold putAt;rw[List.length_cons,List.take_succ_eq_append_getElem (by simpa using h),List.take_set_of_le (Nat.le_refl _),List.getElem_set_self,List.drop_set_of_lt (by omega)];simp[Nat.add_assoc,Nat.add_comm 1]
def aM.setCells :∀(cs:List By) {w:BY} {cur:List By} (o:Nat),aM w g t cur.toArray->o+cs.length<=cur.length->aM (w.setCells g o cs) g t (putAt cur o cs).toArray
 |[],w,cur,o,h,_=>by rw[yt];exact h
 |v::cs,w,cur,o,h,hl=>by
  simp only[List.length_cons]at hl;have h1:=h.ct o v;rw[List.setIfInBounds_toArray]at h1;have h2:=aM.setCells cs (o+1) h1 (by rw[List.length_set];omega);rw[Po (by omega)]at h2;exact h2
def ah.setCells{S:List Nat} :∀(cs:List By) {w':BY} (o:Nat),ah S w w'->(g<w.heap.size->g∈S)->ah S w (w'.setCells g o cs)
 |[],_,_,h,_=>h
 |v::cs,_,o,h,hg=>ah.setCells cs (o+1) (h.setCell (p:=⟨g,o,none⟩) hg v) hg
def vu(B:aM w g t cur.toArray)(dT sT ty elem:us)(o wL CI:Nat)(a:Addr)(Pp sCap:Nat)(cs:List By)
 (hu:P.underlying dT=some (.slice elem))(hs:(P.info? elem).map (·.size)=some 1)(hn:cs.length=Nat.min Pp wL)
 (Xx:∀j v,cs[j]?=some v->w.cell? (a.add j)=some v)(uN:o+cs.length<=cur.length)(h1:∀v∈cs,v.oneCell'=true):
  ∃w',(Builtin.copy_ #[dT,sT] ty #[U3 (some ⟨g,o,none⟩) wL CI,U3 (some a) Pp sCap]).run P w=.ok (goInt cs.length) w'/\aM w' g t (putAt cur o cs).toArray/\ah [g] w w':=
 ⟨_,run_copy_cells (P:=P) w dT sT ty elem g o wL CI a Pp sCap cs hu hs hn Xx (λj hj=>by rw[B.cell];simp;omega) (λj hj=>B.frozen _ (by simp;omega)) h1,
  B.setCells cs o uN,(ah.refl _ _).setCells cs o (by simp)⟩
def oM(B:aM w g t cur.toArray)(dT sT ty elem:us)(o wL CI:Nat)(s:Nm)(n:Nat)
 (hu:P.underlying dT=some (.slice elem))(hs:(P.info? elem).map (·.size)=some 1)(hn:n=Nat.min s.size wL)(uN:o+n<=cur.length):
  ∃w',(Builtin.copy_ #[dT,sT] ty #[U3 (some ⟨g,o,none⟩) wL CI,U7 s]).run P w=.ok (goInt n) w'/\aM w' g t (putAt cur o (fq (s.data.toList.take n))).toArray/\ah [g] w w':=by
 have hl:(fq (s.data.toList.take n)).length=n:=by
  have:n<=s.size:=by rw[hn];exact Nat.min_le_left _ _
  simp;omega
 refine⟨w.setCells g o (fq (s.data.toList.take n)),?_,B.setCells _ o (by omega),(ah.refl _ _).setCells _ o (by simp)⟩;have x6:=run_storeCells_cells (P:=P) g o (fq (s.data.toList.take n)) 0 w (λj hj=>by rw[B.cell];simp;omega) (λj hj=>B.frozen _ (by simp;omega)) (tN _);have e:List.take n (List.map (λb:UInt8=>Value.int ut (b.toNat:Int)) s.data.toList)=fq (s.data.toList.take n):=by
  rw[fq,List.map_take];rfl
 cases hq:P.info? elem with
 |none=>simp[hq]at hs
 |some i=>
  simp only[Nat.add_zero]at x6;simp[Builtin.copy_,run_underlying hu,Builtin.lenOf,Builtin.firstCells,sizeOf,typeInfo,hq,<-hn];rw[e,x6];simp[Result.andThen]
def bT(B:aM w g t l.toArray)(o:Nat)(cs:List By)(h:∀j v,cs[j]?=some v->l[o+j]?=some v):
  ∀j v,cs[j]?=some v->w.cell? ((⟨g,o,none⟩:Addr).add j)=some v:=by
 intro j v hv;have e:(⟨g,o,none⟩:Addr).add j=⟨g,o+j,none⟩:=by unfold Addr.add;split<;>simp_all
 rw[e,B.cell];simpa using h j v hv
def bm(w:BY)(e:us)(size:Nat)(v:By)(n:Nat)(l:List By):Prop:=
 l.length=n*size/\((v=U3 none 0 0/\n=0)\/
  ∃g cap rest,v=U3 (some ⟨g,0,none⟩) n cap/\aM w g e (l++rest).toArray/\l.length+rest.length=cap*size/\cap<=sh)
def ak:By->List Nat
 |U3 (some a) _ _=>[a.block]
 |_=>[]
section
variable{w w':BY}{e:us}{size:Nat}{v:By}{n:Nat}{l:List By}{S:List Nat}
def bm.nil(w:BY)(e:us)(size:Nat):bm w e size (U3 none 0 0) 0 []:=⟨by simp,.inl ⟨rfl,rfl⟩⟩
def bm.only(h:bm w e size v n l)(ho:ah S w w')(hd:∀g∈ak v,g∉S):bm w' e size v n l:=by
 refine⟨h.1,h.2.imp id ?_⟩;rintro⟨g,cap,rest,rfl,B,hc,hm⟩;exact⟨g,cap,rest,rfl,B.only ho (hd g (by simp[ak])),hc,hm⟩
def bm.below(h:bm w e size v n l)(hb:Below w.heap.size w w'):bm w' e size v n l:=h.only (S:=[]) (.aj hb) (by simp)
def bm.drew(h:bm w e size v n l):bm w.drew e size v n l:=h
def bm.drewN(h:bm w e size v n l)(k:Nat):bm (w.drewN k) e size v n l:=h
def bm.alloc(h:bm w e size v n l)(o:Obj):bm (w.alloc o) e size v n l:=h.only (S:=[]) ((ah.refl _ _).alloc o) (by simp)
def bm.lt(h:bm w e size v n l):∀g∈ak v,g<w.heap.size:=by
 rcases h.2 with⟨rfl,_⟩|⟨g,cap,rest,rfl,B,_⟩
 .simp[ak]
 .intro x hx;simp[ak]at hx;subst hx;exact B.lt
def bm.CJ{base:Nat}(h:w.ownsRow base e size v n l):bm w e size v n l:=by
 refine⟨h.1,h.2.imp id ?_⟩;rintro⟨g,cap,cur,rfl,_,hh,Kx,hm,hs,ht⟩;have pC:cur.toList.length=cap*size:=by simpa using hs
 refine⟨g,cap,cur.toList.drop (n*size),rfl,?_,?_,hm⟩
 .rw[<-ht,List.take_append_drop];exact .of_eq hh
 .rw[h.1,List.length_drop,pC];have:n*size<=cap*size:=Nat.mul_le_mul_right _ Kx;omega
def bm.form(h:bm w e size v n l)(hn:0<n)(hs:0<size):∃g cap rest,v=U3 (some ⟨g,0,none⟩) n cap/\aM w g e (l++rest).toArray/\n<=cap/\l.length+rest.length=cap*size:=by
 rcases h.2 with⟨_,h0⟩|⟨g,cap,rest,rfl,B,hc,_⟩
 .omega
 .refine⟨g,cap,rest,rfl,B,?_,hc⟩;have h1:=h.1;have:n*size<=cap*size:=by omega
  exact Nat.le_of_mul_le_mul_right this hs
def bm.ya{n' cap:Nat}(h:bm w e size (U3 (some ⟨g,0,none⟩) n' cap) n l):∃rest,aM w g e (l++rest).toArray/\l.length+rest.length=cap*size/\n'=n/\cap<=sh:=by
 rcases h.2 with⟨h0,_⟩|⟨g',Ky,rest,hv,B,hc,hm⟩
 .simp at h0
 .simp only[Value.slice.injEq,Option.some.injEq,Addr.mk.injEq,and_true]at hv;obtain⟨rfl,rfl,rfl⟩:=hv;exact⟨rest,B,hc,rfl,hm⟩
end
def eu{e:us}{size:Nat}{n:Nat}(h:bm w e size v n l)
 (t ty:us)(i:TypeInfo)(z:By)(bytes:Nat)(ht:P.underlying t=some (.slice e))(hi:P.info? e=some i)(hz:i.zero=some z)
 (CK:i.size=size)(hby:i.bytes=bytes)(hzs:z.cells.size=size)(pC:0<size)
 (a:Addr)(m c:Nat)(news:List By)(hl:news.length=m*size)(Gy:∀j u,news[j]?=some u->w.cell? (a.add j)=some u)(h1:∀u∈news,u.oneCell'=true)
 (KK:n+m<=sh)(Pq:(n+m)*bytes<=140737488355328):
  ∃v' w',(Builtin.append_ #[t,t] ty #[v,U3 (some a) m c]).run P w=.ok v' w'/\bm w' e size v' (n+m) (l++news)/\ah (ak v) w w'/\(∀g∈ak v',g∈ak v\/w.heap.size<=g):=by
 rcases h.2 with⟨rfl,rfl⟩|⟨g,cap,rest,rfl,B,hc,hm⟩
 .have Gd:l=[]:=List.eq_nil_of_length_eq_zero (by simpa using h.1);subst Gd;obtain⟨v',w',hr,h2,h3,_⟩:=run_append_own (P:=P) w w.heap.size t ty e i z size bytes ht hi hz CK hby hzs pC (U3 none 0 0) 0 [] (World.ownsRow_nil _ _ _ _) a m c news hl Gy h1 KK Pq (Nat.le_refl _);refine⟨v',w',hr,.CJ h2,(ah.refl _ _).grown h3 (by simp[Value.ownBlock]),?_⟩;intro g hg
  rcases h2.2 with⟨rfl,_⟩|⟨g',cap,cur,rfl,hb,_⟩
  .simp[ak]at hg
  .simp[ak]at hg;subst hg;exact .inr hb
 .by_cases hr:n+m<=cap
  .subst CK;have hmul:(n+m)*i.size<=cap*i.size:=Nat.mul_le_mul_right _ hr;rw[Nat.add_mul]at hmul;have hh:=h.1;have CO:=run_append_room_cells (P:=P) w t ty e i ht hi g 0 n cap a m c news hl Gy h1 hr (λj hj=>by rw[B.cell];simp;omega) (λj hj=>B.frozen _ (by simp;omega));refine⟨_,_,CO,⟨by simp[hh,hl,Nat.add_mul],.inr ⟨g,cap,rest.drop news.length,rfl,?_,by simp;omega,hm⟩⟩,(ah.refl _ _).setCells news _ (by simp[ak]),by simp[ak]⟩
   have B2:=B.setCells news (0+n*i.size) (by simp;omega);have e2:putAt (l++rest) (0+n*i.size) news=l++news++rest.drop news.length:=by
    unfold putAt;rw[Nat.zero_add,<-hh,List.take_left,<-List.drop_drop,List.drop_left]
   rwa [e2]at B2
  .obtain⟨v',w',CO,h2,h3⟩:=run_append_arg_grows (P:=P) w t ty e i z size bytes ht hi hz CK hby hzs pC ⟨g,0,none⟩ n cap l h.1 (bT B 0 l (by intro j u hu;rw[Nat.zero_add];exact List.getElem?_append_left (List.getElem?_eq_some_iff.1 hu).1▸hu)) a m c news hl Gy (by omega) KK Pq;refine⟨v',w',CO,.CJ h2,(ah.refl _ _).grown h3 (by simp),?_⟩;intro g' hg
   rcases h2.2 with⟨rfl,_⟩|⟨g'',Ky,cur,rfl,hb,_⟩
   .simp[ak]at hg
   .simp[ak]at hg;subst hg;exact .inr hb
def wpList_append_run{ops:Array Oper}{rest:List Oper}{o:Oper}{a:Act}{Q:Exit->Act->BY->Prop}(hgd:o.guard=none)(s x:Operand)(t:us)
 (ho:o.op= .call {callee:= .builtin .append,args:= #[s,x],argTypes:= #[t,t]})(v xv:By)(hs:a.eval s=v)(hx:a.eval x=xv){v':By} 
 (CO:(Builtin.append_ #[t,t] o.type #[v,xv]).run P w=.ok v' w')(h:wpList P ops Q rest (a.put o.dst v') w'):wpList P ops Q (o::rest) a w:=by
 refine wpList_plain hgd λK hK=>?_;unfold Oper.wp;simp[execOp,ho,resolve,invoke,builtin,hs,hx,CO,Result.andThen];exact hK _ _ h
def AV(w:BY)(src dst e:us)(s:Nm)(hs:P.underlying src=some .string)(hd:P.underlying dst=some (.slice e))(he:P.underlying e=some (.int ut))(hm:s.size<=sh):
  ∃cap w',(convert src dst (U7 s)).run P w=.ok (U3 (some ⟨w.heap.size,0,none⟩) s.size cap) w'/\bm w' e 1 (U3 (some ⟨w.heap.size,0,none⟩) s.size cap) s.size (fq s.data.toList)/\Below w.heap.size w w':=by
 refine⟨_,_,run_bytes_of_string (P:=P) w src dst e s hs hd he,⟨by simp,.inr ⟨w.heap.size,_,it (grownCap w s.size 0 e-s.size) (U5 ut 0),rfl,?_,?_,grownCap_le_maxLen _ _ _ _ hm⟩⟩,?_⟩
 .have e1:bytesRow s (grownCap w s.size 0 e)=(fq s.data.toList++it (grownCap w s.size 0 e-s.size) (Value.int ut 0)).toArray:=by
   apply Array.toList_inj.1;simp[bytesRow,fq];exact λ_ _=>rfl
  rw[e1];exact⟨_,_,heap_alloc_new w.drew _,.inr (Nat.le_refl _)⟩
 .have:=grownCap_ge w s.size 0 e;simp;omega
 .exact⟨rfl,rfl,rfl,by simp,λk hk=>Below.heap_alloc w.drew _ k hk⟩
variable{w:BY}{e:us}{v:By}{n:Nat}{l:List By}
noncomputable def eM(P:Program)(T ty:us)(w:BY)(s x:By):Result By:=(Builtin.append_ #[T,T] ty #[s,x]).run P w
def bP(P:Program)(ρ:Operand->By)(dst:Option Tmp)(s x:Operand)(T t:us)(p:String)(af:Array Edge)(g:Option (Nat×Bool))(w:BY):
  (execOp ρ {dst:=dst,op:= .call {callee:= .builtin .append,args:= #[s,x],argTypes:= #[T,T]},type:=t,pos:=p,after:=af,guard:=g}).run P w=(eM P T t w (ρ s) (ρ x)).andThen λv w'=> .ok (.value v) w':=by
 simp[execOp,resolve,invoke,builtin,eM]
def gw{P:Program}(S:bm w e 1 v n l)
 (T ty:us)(z:By)(bytes:Nat)(ht:P.underlying T=some (.slice e))(pE:(P.info? e).map (λi=>(i.zero,i.size,i.bytes))=some (some z,1,bytes))(hz:z.cells.size=1)
 (x:By)(hx:x.oneCell'=true)(KK:n+1<=sh)(hb:(n+1)*bytes<=140737488355328):
  ∃v' w',eM P T ty (w.alloc (Pi #[x] e)) v (U3 (some ⟨w.heap.size,0,none⟩) 1 1)= .ok v' w'/\bm w' e 1 v' (n+1) (l++[x])/\ah (ak v) w w'/\(∀g∈ak v',g∈ak v\/w.heap.size<=g):=by
 obtain⟨i0,hi,lC,kH,lM⟩:=info_parts pE;obtain⟨v',w',h1,h2,h3,h4⟩:=eu (P:=P) (S.alloc (Pi #[x] e)) T ty i0 z bytes ht hi lC kH lM hz (by omega)
  ⟨w.heap.size,0,none⟩ 1 1 [x] rfl (bT (l:=[x]) (aM.new w e #[x]) 0 _ (by simp)) (by intro u hu;simp at hu;subst hu;exact hx) KK hb
 exact⟨v',w',h1,h2,((ah.refl _ _).alloc _).bj h3 (λx hx _=>hx),λg hg=>(h4 g hg).imp id (λh=>by simp at h;omega)⟩
def aI{size:Nat}(S:bm w e size v n l):∃A c,v=U3 A n c:=by
 rcases S.2 with⟨rfl,rfl⟩|⟨g,cap,rest,rfl,_⟩
 .exact⟨none,0,rfl⟩
 .exact⟨_,cap,rfl⟩
variable{P:Program}{i fuel d n:Nat}{v:By}{w:BY}
def pa{α:Type}(l:List α)(i:Nat)(a:α):l.toArray.setIfInBounds i a=(l.set i a).toArray:=by simp
def pb{α:Type}(a b:α)(l:List α):(a::l).set 0 b=b::l:=rfl
def pc{α:Type}(a b:α)(l:List α)(n:Nat):(a::l).set (n+1) b=a::l.set n b:=rfl
def tkf{ops:Array Oper}{Q:Exit->Act->BY->Prop}{md:Region.Mode}{S:BY->Prop}{oi:Oper}{cE:Array Bool}{a:Act}(hi:ops[i]?=some oi)
 (hb:(Region.noSelect ops && (Region.free md ops cE i && ((Region.ready md ops cE).contains i && Region.wanted oi (yielded ops a.tmps))))=true)
 (hQ:∀c a w,Q (.panic c) (a.put oi.dst v) w->Q (.panic c) a w)(hS:S w)(y:∀w,S w->(execOp a.eval oi).run P w=.ok (.value v) w)
 (h:wpAnyH P md ops Q S fuel (cE.setIfInBounds i true) (a.put oi.dst v) w):wpAnyH P md ops Q S (fuel+1) cE a w:=by
 simp only[Bool.and_eq_true]at hb;exact wpAnyH_take hi hb.1 hb.2.1 hb.2.2.1 hQ (Or.inl ⟨hb.2.2.2,y⟩) hS h
def Xb(_:List (Nat×Nat))(g:Prop):Prop:=g
def dj(l:List (Nat×Nat)){g:Prop}(h:Xb l g):g:=h
def zpe{g:Prop}(h:g):Xb [] g:=h
def ztp{ops:Array Oper}{Q:Exit->Act->BY->Prop}{md:Region.Mode}{S:BY->Prop}{l:List (Nat×Nat)}{x1 x2 x3 x4 x5}{cE:Array Bool}{a:Act}(hi:ops[i]?=some ⟨some d,x1,x2,x3,x4,x5⟩)
 (hb:(Region.noSelect ops && (Region.free md ops cE i && ((Region.ready md ops cE).contains i && Region.wanted ⟨some d,x1,x2,x3,x4,x5⟩ (yielded ops a.tmps))))=true)
 (hQ:∀c a w,Q (.panic c) (a.put (some d) v) w->Q (.panic c) a w)(hS:S w)(y:∀w,S w->(execOp a.eval ⟨some d,x1,x2,x3,x4,x5⟩).run P w=.ok (.value v) w)
 (h:Xb l (wpAnyH P md ops Q S fuel (cE.setIfInBounds i true) (a.put (some d) v) w)):Xb ((i,d)::l) (wpAnyH P md ops Q S (fuel+1) cE a w):=tkf hi hb hQ hS y h
def tks{ops:Array Oper}{Q:Exit->Act->BY->Prop}{md:Region.Mode}{S:BY->Prop}{oi:Oper}{cE:Array Bool}{a:Act}(hi:ops[i]?=some oi)
 (hb:(Region.noSelect ops && (Region.free md ops cE i && ((Region.ready md ops cE).contains i && !(Region.wanted oi (yielded ops a.tmps)))))=true)
 (hQ:∀c a w,Q (.panic c) (a.put oi.dst undef) w->Q (.panic c) a w)(hS:S w)
 (h:wpAnyH P md ops Q S fuel (cE.setIfInBounds i true) (a.put oi.dst undef) w):wpAnyH P md ops Q S (fuel+1) cE a w:=by
 simp only[Bool.and_eq_true,Bool.not_eq_true']at hb;exact wpAnyH_take hi hb.1 hb.2.1 hb.2.2.1 hQ (Or.inr ⟨hb.2.2.2,rfl⟩) hS h
def Xy{α:Type}(l:List α)(i:Nat)(a:α):l.toArray.setIfInBounds i a=(l.set i a).toArray:=pa l i a
def Xz{α:Type}(a b:α)(l:List α):(a::l).set 0 b=b::l:=rfl
def XA{α:Type}(a b:α)(l:List α)(n:Nat):(a::l).set (n+1) b=a::l.set n b:=rfl
def bJ{ops:Array Oper}{Q:Exit->Act->BY->Prop}{md:Region.Mode}{S:BY->Prop}{l:List (Nat×Nat)}{x1 x2 x3 x4 x5}{cE:Array Bool}{a a':Act} 
 (h:Xb l (wpAnyH P md ops Q S fuel (cE.setIfInBounds i true) a' w))(hi:ops[i]?=some ⟨some d,x1,x2,x3,x4,x5⟩:=by rfl)
 (hb:(Region.noSelect ops && (Region.free md ops cE i && ((Region.ready md ops cE).contains i && Region.wanted ⟨some d,x1,x2,x3,x4,x5⟩ (yielded ops a.tmps))))=true:=by kernel_rfl)
 (hQ:∀c a w,Q (.panic c) (a.put (some d) v) w->Q (.panic c) a w:=by exact λ_ _ _ h=>h)(hS:S w:=by assumption)
 (y:∀w,S w->(execOp a.eval ⟨some d,x1,x2,x3,x4,x5⟩).run P w=.ok (.value v) w:=by intro w hS;(try dsimp only at hS);go_simp;try with_reducible rfl)
 (ha:a.put (some d) v=a':=by simp only[Act.put,Xy,Xz,XA];exact rfl):Xb ((i,d)::l) (wpAnyH P md ops Q S (fuel+1) cE a w):=ztp hi hb hQ hS y (ha▸h)
def kN{ops:Array Oper}{Q:Exit->Act->BY->Prop}{md:Region.Mode}{S:BY->Prop}(i d:Nat){x1 x2 x3 x4 x5}{cE:Array Bool}{a a':Act} 
 (hQ:∀c a w,Q (.panic c) (a.put (some d) v) w->Q (.panic c) a w)(h:wpAnyH P md ops Q S fuel (cE.setIfInBounds i true) a' w)(hi:ops[i]?=some ⟨some d,x1,x2,x3,x4,x5⟩:=by rfl)
 (hb:(Region.noSelect ops && (Region.free md ops cE i && ((Region.ready md ops cE).contains i && Region.wanted ⟨some d,x1,x2,x3,x4,x5⟩ (yielded ops a.tmps))))=true:=by kernel_rfl)
 (hS:S w:=by assumption)(y:∀w,S w->(execOp a.eval ⟨some d,x1,x2,x3,x4,x5⟩).run P w=.ok (.value v) w:=by intro w hS;(try dsimp only at hS);go_simp;try with_reducible rfl)
 (ha:a.put (some d) v=a':=by simp only[Act.put,Xy,Xz,XA];exact rfl):wpAnyH P md ops Q S (fuel+1) cE a w:=tkf hi hb hQ hS y (ha▸h)
def bK{ops:Array Oper}{Q:Exit->Act->BY->Prop}{md:Region.Mode}{S:BY->Prop}(i d:Nat){x1 x2 x3 x4 x5}{cE:Array Bool}{a a':Act} 
 (h:wpAnyH P md ops Q S fuel (cE.setIfInBounds i true) a' w)(hi:ops[i]?=some ⟨some d,x1,x2,x3,x4,x5⟩:=by rfl)
 (hb:(Region.noSelect ops && (Region.free md ops cE i && ((Region.ready md ops cE).contains i && !(Region.wanted ⟨some d,x1,x2,x3,x4,x5⟩ (yielded ops a.tmps)))))=true:=by kernel_rfl)
 (hQ:∀c a w,Q (.panic c) (a.put (some d) undef) w->Q (.panic c) a w:=by exact λ_ _ _ h=>h)(hS:S w:=by assumption)
 (ha:a.put (some d) undef=a':=by simp only[Act.put,Xy,Xz,XA];exact rfl):wpAnyH P md ops Q S (fuel+1) cE a w:=tks hi hb hQ hS (ha▸h)
def dV{ops:Array Oper}{Q:Exit->Act->BY->Prop}{md:Region.Mode}{S:BY->Prop}{cE:Array Bool}{a:Act}(i d:Nat){x1 x2 x3 x4 x5}
 (h:∀K':Act->BY->Prop,Shut (∀a w,S w->(S w->wpAnyH P md ops Q S fuel (cE.setIfInBounds i true) a w)->K' a w)->if Region.wanted ⟨some d,x1,x2,x3,x4,x5⟩ (yielded ops a.tmps)=true then Oper.wp P ⟨some d,x1,x2,x3,x4,x5⟩ a w K' Q else K' (a.put (some d) undef) w)
 (hr:Region.ready md ops cE=[i]:=by kernel_rfl)(ho:ops[i]?=some ⟨some d,x1,x2,x3,x4,x5⟩:=by rfl):wpAnyH P md ops Q S (fuel+1) cE a w:=wpAnyH_ready hr (by simp) (AllReadyH.cons ho h AllReadyH.nil)
def pF{ops:Array Oper}{Q:Exit->Act->BY->Prop}{md:Region.Mode}{S:BY->Prop}{cE:Array Bool}{a:Act}(i:Nat){x1 x2 x3 x4 x5}
 (h:∀K':Act->BY->Prop,Shut (∀a w,S w->(S w->wpAnyH P md ops Q S fuel (cE.setIfInBounds i true) a w)->K' a w)->if Region.wanted ⟨none,x1,x2,x3,x4,x5⟩ (yielded ops a.tmps)=true then Oper.wp P ⟨none,x1,x2,x3,x4,x5⟩ a w K' Q else K' (a.put none undef) w)
 (hr:Region.ready md ops cE=[i]:=by kernel_rfl)(ho:ops[i]?=some ⟨none,x1,x2,x3,x4,x5⟩:=by rfl):wpAnyH P md ops Q S (fuel+1) cE a w:=wpAnyH_ready hr (by simp) (AllReadyH.cons ho h AllReadyH.nil)
def rA{ops:Array Oper}{Q:Exit->Act->BY->Prop}{md:Region.Mode}{S:BY->Prop}(i d:Nat){x1 x2 x3 x4 x5}(v:By){cE:Array Bool}{a a':Act} 
 (y:∀w,S w->(execOp a.eval ⟨some d,x1,x2,x3,x4,x5⟩).run P w=.ok (.value v) w)(h:wpAnyH P md ops Q S fuel (cE.setIfInBounds i true) a' w)(hi:ops[i]?=some ⟨some d,x1,x2,x3,x4,x5⟩:=by rfl)
 (hb:(Region.noSelect ops && (Region.free md ops cE i && ((Region.ready md ops cE).contains i && Region.wanted ⟨some d,x1,x2,x3,x4,x5⟩ (yielded ops a.tmps))))=true:=by kernel_rfl)
 (hQ:∀c a w,Q (.panic c) (a.put (some d) v) w->Q (.panic c) a w:=by exact λ_ _ _ h=>h)(hS:S w:=by assumption)
 (ha:a.put (some d) v=a':=by simp only[Act.put,Xy,Xz,XA];exact rfl):wpAnyH P md ops Q S (fuel+1) cE a w:=tkf hi hb hQ hS y (ha▸h)
def cq{S:BY->Prop}{W K':Act->BY->Prop}{a a':Act}(hK:Shut (∀a w,S w->(S w->W a w)->K' a w))(hS:S w)(h:S w->W a' w)(ha:a=a':=by(try simp only[Act.put,Xy,Xz,XA]);exact rfl):K' a w:=Shut.o hK _ _ hS (ha▸h)
def bz{p q:Prop}(h:q)(e:p:=by first|rfl|simp):p/\q:=⟨e,h⟩
def exl'(u:Nm)(a b:Nat):(u.extract a b).data.toList=(u.data.toList.drop a).take (b-a):=by
 rw[ByteArray.data_extract,Array.toList_extract,List.extract_eq_take_drop]
def CQ{f:FuncId}{args:Array By}(h:io P f args (w.drewN n) λe w'=>e=fd v/\w.drewN n=w'):io P f args (w.drewN n) λe Ur=>e=fd v/\∃m,Ur=w.drewN m:=h.mono λ_ _ ⟨he,hm⟩=>⟨he,n,hm.symm⟩
def SC{l:UV}{e:us}(S:bm w e 1 v n (fq l))(src dst:us)(hs:P.underlying src=some (.slice e))(he:P.underlying e=some (.int ut))(hd:P.underlying dst=some .string):
  (convert src dst v).run P w=.ok (U7 ⟨l.toArray⟩) w:=by
 have hl:=S.1
 rcases S.2 with⟨rfl,rfl⟩|⟨g,cap,rest,rfl,B,hc,_⟩
 .have Gd:l=[]:=List.eq_nil_of_length_eq_zero (by simpa using hl);subst Gd;rw[run_convert_bytes_string w src dst e none 0 0 hs he hd];rfl
 .exact cQ (P:=P) w src dst e hs he hd ⟨g,0,none⟩ n cap l (by simpa using hl) (bT B 0 _ (by intro j u hu;rw[Nat.zero_add];exact List.getElem?_append_left (List.getElem?_eq_some_iff.1 hu).1▸hu))
variable{P:Program}{w:BY}{e:us}{v:By}{n:Nat}{l:List By}
def cB:By->List Nat
 |U3 (some a) _ c=>if c=0 then []else [a.block]
 |_=>[]
def Sl(w:BY)(e:us)(v:By)(n:Nat)(l:List By):Prop:=
 l.length=n/\((∃A,v=U3 A 0 0/\n=0)\/
  ∃g cap rest,v=U3 (some ⟨g,0,none⟩) n cap/\0<cap/\aM w g e (l++rest).toArray/\l.length+rest.length=cap/\cap<=sh)
section
variable{w w':BY}{e:us}{v:By}{n:Nat}{l:List By}{S:List Nat}
def Sl.nil(w:BY)(e:us):Sl w e (U3 none 0 0) 0 []:=⟨rfl,.inl ⟨none,rfl,rfl⟩⟩
def Sl.rQ(h:bm w e 1 v n l):Sl w e v n l:=by
 have hl:=h.1;refine⟨by omega,?_⟩
 rcases h.2 with⟨rfl,rfl⟩|⟨g,cap,rest,rfl,B,hc,hm⟩
 .exact .inl ⟨none,rfl,rfl⟩
 .by_cases h0:cap=0
  .subst h0;have:n=0:=by omega
   subst this;exact .inl ⟨_,rfl,rfl⟩
  .exact .inr ⟨g,cap,rest,rfl,by omega,B,by omega,hm⟩
def Sl.only(h:Sl w e v n l)(ho:ah S w w')(hd:∀g∈cB v,g∉S):Sl w' e v n l:=by
 refine⟨h.1,h.2.imp id ?_⟩;rintro⟨g,cap,rest,rfl,h0,B,hc,hm⟩;exact⟨g,cap,rest,rfl,h0,B.only ho (hd g (by simp[cB];omega)),hc,hm⟩
def Sl.below(h:Sl w e v n l)(hb:Below w.heap.size w w'):Sl w' e v n l:=h.only (S:=[]) (.aj hb) (by simp)
def Sl.drew(h:Sl w e v n l):Sl w.drew e v n l:=h
def Sl.alloc(h:Sl w e v n l)(o:Obj):Sl (w.alloc o) e v n l:=h.only (S:=[]) ((ah.refl _ _).alloc o) (by simp)
def Sl.lt(h:Sl w e v n l):∀g∈cB v,g<w.heap.size:=by
 rcases h.2 with⟨A,rfl,_⟩|⟨g,cap,rest,rfl,h0,B,_⟩
 .cases A<;>simp[cB]
 .intro x hx;simp[cB]at hx;rw[hx.2];exact B.lt
def Sl.val(h:Sl w e v n l):∃A c,v=U3 A n c/\n<=c:=by
 rcases h.2 with⟨A,rfl,rfl⟩|⟨g,cap,rest,rfl,_,_,hc,_⟩
 .exact⟨A,0,rfl,Nat.le_refl _⟩
 .exact⟨_,cap,rfl,by have:=h.1;omega⟩
def Sl.form(h:Sl w e v n l)(hn:0<n):∃g cap rest,v=U3 (some ⟨g,0,none⟩) n cap/\aM w g e (l++rest).toArray/\n<=cap/\l.length+rest.length=cap:=by
 rcases h.2 with⟨_,_,h0⟩|⟨g,cap,rest,rfl,_,B,hc,_⟩
 .omega
 .exact⟨g,cap,rest,rfl,B,by have:=h.1;omega,hc⟩
def Sl.ct(h:Sl w e v n l)(k:Nat)(hk:k<n)(u:By):∃g c,v=U3 (some ⟨g,0,none⟩) n c/\Sl (w.setCell ⟨g,k,none⟩ u) e v n (l.set k u)/\cB v=[g]/\w.frozen? ⟨g,k,none⟩=false/\ah [g] w (w.setCell ⟨g,k,none⟩ u):=by
 rcases h.2 with⟨A,rfl,h0⟩|⟨g,cap,rest,rfl,h0,B,hc,hm⟩
 .omega
 .have hl:=h.1;refine⟨g,cap,rfl,⟨by rw[List.length_set];exact hl,.inr ⟨g,cap,rest,rfl,h0,?_,by rw[List.length_set];exact hc,hm⟩⟩,by simp[cB];omega,B.frozen k (by simp;omega),(ah.refl _ _).setCell (by simp) _⟩;have B2:=B.ct k u;rw[List.setIfInBounds_toArray,List.set_append_left _ _ (by omega)]at B2;exact B2
def Sl.cut(h:Sl w e v n l){A:Option Addr}{c:Nat}(hv:v=U3 A n c)(k:Nat)(hk:k<=n):Sl w e (U3 A k c) k (l.take k):=by
 have hl:=h.1;refine⟨by rw[List.length_take];omega,?_⟩
 rcases h.2 with⟨A',h1,h0⟩|⟨g,cap,rest,h1,h0,B,hc,hm⟩
 .rw[hv]at h1;injection h1 with h1 h2 h3
  subst h3;exact .inl ⟨A,by rw[show k=0 by omega],by omega⟩
 .rw[hv]at h1;injection h1 with h1 h2 h3
  subst h1 h3;exact .inr ⟨g,c,l.drop k++rest,rfl,h0,by rw[<-List.append_assoc,List.take_append_drop];exact B,by rw[List.length_take,List.length_append,List.length_drop];omega,hm⟩
end
def yu(h:Sl w e v n l)
 (T ty:us)(z:By)(bytes:Nat)(ht:P.underlying T=some (.slice e))(pE:(P.info? e).map (λi=>(i.zero,i.size,i.bytes))=some (some z,1,bytes))(hz:z.cells.size=1)
 (x:Option Addr)(m c:Nat)(news:List By)(hl:news.length=m)(Gy:∀j u,news[j]?=some u->∃a,x=some a/\w.cell? (a.add j)=some u)(h1:∀u∈news,u.oneCell'=true)
 (KK:n+m<=sh)(hb:(n+m)*bytes<=140737488355328):
  ∃v' w',eM P T ty w v (U3 x m c)= .ok v' w'/\Sl w' e v' (n+m) (l++news)/\ah (cB v) w w'/\(∀g∈cB v',g∈cB v\/w.heap.size<=g):=by
 obtain⟨i0,hi,lC,kH,lM⟩:=info_parts pE;have wM:=h.1
 by_cases hm0:m=0
 .subst hm0;have Gd:news=[]:=List.eq_nil_of_length_eq_zero hl;subst Gd;refine⟨v,w,?_,by simpa using h,ah.refl _ _,λx hx=> .inl hx⟩;unfold eM;obtain⟨A,cc,rfl,Kx⟩:=h.val
  cases x with
  |none=>cases A<;>simp[Builtin.append_,run_underlying ht,sizeOf,typeInfo,hi,Builtin.lenOf,Builtin.firstCells,Kx,storeCells]
  |some a=>
   cases A with
   |none=>simp[Builtin.append_,run_underlying ht,sizeOf,typeInfo,hi,Builtin.lenOf,Builtin.firstCells,Kx,storeCells,loadCells,loadCellsFrom]
   |some b=>simp[Builtin.append_,run_underlying ht,sizeOf,typeInfo,hi,Builtin.lenOf,Builtin.firstCells,Kx,storeCells,loadCells,loadCellsFrom]
 .obtain⟨u0,hu0⟩:∃u,news[0]?=some u:=⟨news[0]'(by omega),List.getElem?_eq_getElem (by omega)⟩;obtain⟨a,rfl,_⟩:=Gy 0 u0 hu0;have XB:∀j u,news[j]?=some u->w.cell? (a.add j)=some u:=λj u hu=>by
   obtain⟨a',e1,h2⟩:=Gy j u hu;injection e1 with e1
   rw[e1];exact h2
  rcases h.2 with⟨A,rfl,rfl⟩|⟨g,cap,rest,rfl,h0,B,hc,hm⟩
  .have Gd:l=[]:=List.eq_nil_of_length_eq_zero wM;subst Gd
   cases A with
   |none=>
    obtain⟨v',w',e1,h2,h3,h4⟩:=eu (P:=P) (bm.nil w e 1) T ty i0 z bytes ht hi lC kH lM hz (by omega) a m c news (by omega) XB h1 KK hb;exact⟨v',w',e1,Sl.rQ h2,h3.mono (by simp[ak]),λg hg=>by
     have hg':g∈ak v':=by
      rcases h2.2 with⟨rfl,_⟩|⟨g',Ky,rest',rfl,_⟩
      .simp[cB]at hg
      .simp[cB]at hg;simp[ak];exact hg.2
     exact(h4 g hg').elim (λh=>by simp[ak]at h) .inr⟩
   |some b=>
    obtain⟨v',w',CO,h2,h3⟩:=run_append_arg_grows (P:=P) w T ty e i0 z 1 bytes ht hi lC kH lM hz (by omega) b 0 0 [] rfl (by simp) a m c news (by omega) XB (by omega) KK hb;refine⟨v',w',CO,Sl.rQ (.CJ h2),(ah.refl _ _).grown h3 (by simp),?_⟩;intro g hg
    rcases h2.2 with⟨rfl,_⟩|⟨g'',Ky,cur,rfl,hb',_⟩
    .simp[cB]at hg
    .simp[cB]at hg;rw[hg.2];exact .inr hb'
  .have S:bm w e 1 (U3 (some ⟨g,0,none⟩) n cap) n l:=⟨by omega,.inr ⟨g,cap,rest,rfl,B,by omega,hm⟩⟩;obtain⟨v',w',e1,h2,h3,h4⟩:=eu (P:=P) S T ty i0 z bytes ht hi lC kH lM hz (by omega) a m c news (by omega) XB h1 KK hb;have ho:cB (U3 (some ⟨g,0,none⟩) n cap)=[g]:=by simp[cB];omega
   refine⟨v',w',e1,Sl.rQ h2,by rw[ho];exact h3.mono (by simp[ak]),λx hx=>?_⟩;rw[ho];have SD:x∈ak v':=by
    rcases h2.2 with⟨rfl,_⟩|⟨g',Ky,rest',rfl,_⟩
    .simp[cB]at hx
    .simp[cB]at hx;simp[ak];exact hx.2
   exact(h4 x SD).imp (by simp[ak]) id
def Pr(h:Sl w e v n l)
 (T ty:us)(z:By)(bytes:Nat)(ht:P.underlying T=some (.slice e))(pE:(P.info? e).map (λi=>(i.zero,i.size,i.bytes))=some (some z,1,bytes))(hz:z.cells.size=1)
 (x:By)(hx:x.oneCell'=true)(KK:n+1<=sh)(hb:(n+1)*bytes<=140737488355328):
  ∃v' w',eM P T ty (w.alloc (Pi #[x] e)) v (U3 (some ⟨w.heap.size,0,none⟩) 1 1)= .ok v' w'/\Sl w' e v' (n+1) (l++[x])/\ah (cB v) w w'/\(∀g∈cB v',g∈cB v\/w.heap.size<=g):=by
 obtain⟨v',w',h1,h2,h3,h4⟩:=yu (P:=P) (h.alloc (Pi #[x] e)) T ty z bytes ht pE hz (some ⟨w.heap.size,0,none⟩) 1 1 [x] rfl
  (λj u hu=>⟨_,rfl,bT (l:=[x]) (aM.new w e #[x]) 0 _ (by simp) j u hu⟩) (by intro u hu;simp at hu;subst hu;exact hx) KK hb
 exact⟨v',w',h1,h2,((ah.refl _ _).alloc _).bj h3 (λx hx _=>hx),λg hg=>(h4 g hg).imp id (λh=>by simp at h;omega)⟩
end
def aM.bi{w:BY}{g:Nat}{t:us}{cs:Array By}(h:aM w g t cs)(i:Nat){v:By}(hv:cs[i]?=some v:=by exact rfl):w.cell? ⟨g,i,none⟩=some v:=(h.cell i).trans hv
def d9{n:Int}(h:-9223372036854775808<=n/\n<=9223372036854775807:=by omega):U6.wrap n=n:=IntWalk.i64_in n h
def gc{n:Int}(h:0<=n/\n<=18446744073709551615:=by omega):IntKind.u64.wrap n=n:=IntWalk.u64_in n h
def ge{c:Prop}{h:Decidable c}{α}{t e:α}(hc:¬c:=by omega):(if c then t else e)=e:=U9 hc
def g8{c:Prop}{h:Decidable c}{α}{t e:α}(hc:c:=by omega):(if c then t else e)=t:=U8 hc
def g9(p:Prop)(h:p):RowKit.Hid p:=h
def ip{w:BY}{W K':Act->BY->Prop}{a a':Act}(hK:Shut (∀a w,True->(True->W a w)->K' a w))(h:W a' w)(ha:a=a':=by(try simp only[Act.put,Act.put,Xy,Xz,XA]);exact rfl):K' a w:=Shut.o hK _ _ trivial (λ_=>ha▸h)
def i4{α}[BEq α][LawfulBEq α]{a b:α}(h:a≠b):(a==b)=false:=by rw[beq_eq_false_iff_ne];exact h
def lm{α}[BEq α][LawfulBEq α]{a b:α}(h:a≠b):(a != b)=true:=by rw[bne_iff_ne];exact h
def i5(w:BY):RowKit.Below w.heap.size w w:=RowKit.Below.refl _ _
def i6(w:BY)(o:Obj):RowKit.Below w.heap.size w (w.alloc o):=(RowKit.Below.refl w.heap.size w).alloc (RowKit.Below.refl w.heap.size w).size o
abbrev i7(w w':BY):Prop:=RowKit.Below w.heap.size w w'
def i8{c:Prop}{h:Decidable c}{α}{t e:α}(hc:¬c:=by simp):(if c then t else e)=e:=U9 hc
def i9{c:Prop}{h:Decidable c}{α}{t e:α}(hc:c:=by simp):(if c then t else e)=t:=U8 hc
def jp{P:Program}{md:Region.Mode}{ops:Array Oper}{Q:Exit->Act->BY->Prop}{S:BY->Prop}{listed:Array Bool}{a:Act}{w:BY}(h:Q .normal a w)(fuel:Nat)(hr:Region.ready md ops listed=[]:=by kernel_rfl):wpAnyH P md ops Q S fuel listed a w:=wpAnyH_done hr h fuel
def kw{P:Program}{ops:Array Oper}{Q:Exit->Act->BY->Prop}(S:BY->Prop){id:Nat}{a:Act}{w:BY}(hS:S w.drew)(h:S w.drew->wpAnyH P .any ops Q S ops.size (Array.replicate ops.size false) a w.drew)(hm:P.follows .mixedOrders=true:=by kernel_rfl):(Code.region id ops true).wp P Q a w:=wp_region_held_drew hm hS h
def ls{p:Prop}(h:p:=by omega):p:=h
def lw{p:Prop}(h:p:=by simp):p:=h
def ms{p:Prop}(h:p:=by decide):p:=h
def pm{p:Prop}(h:p:=by kernel_rfl):p:=h
instance:Coe Int By:=⟨λn=>U5 U6 n⟩
instance:Coe Nat By:=⟨λn=>U5 U6 (n:Int)⟩
structure ZA where g:Nat
abbrev lc:=ZA.mk
abbrev li:=By
instance(g:Nat):CoeDep ZA (ZA.mk g) By:=⟨.pointer (some ⟨g,0,none⟩)⟩
instance(g:Nat):CoeDep ZA (ZA.mk g) Addr:=⟨⟨g,0,none⟩⟩
instance(g:Nat):CoeDep ZA (ZA.mk g) (Option Addr):=⟨some ⟨g,0,none⟩⟩
attribute [go_sem ↓] Go.wp_at_zero Go.wp_at_succ
namespace ky
variable{r c:Nat}
def Us:Nat:=2197175160
def tab:List Nat:=[0x00000000,0x105ec76f,0x20bd8ede,0x30e349b1,0x417b1dbc,0x5125dad3,0x61c69362,0x7198540d,
 0x82f63b78,0x92a8fc17,0xa24bb5a6,0xb21572c9,0xc38d26c4,0xd3d3e1ab,0xe330a81a,0xf36e6f75]
def nib(r:Nat):Nat:=r / 16 ^^^ tab.getD (r % 16) 0
def cP(r c:Nat):Nat:=nib (nib (r ^^^ c))
def rR(r:Nat)(l:UV):Nat:=l.foldl (λr c=>cP r c.toNat) r
def lD(l:UV):Nat:=4294967295-rR 4294967295 l
def z(r:Nat):Nat:=r / 2 ^^^ if r % 2=1 then Us else 0
def xor_div_two(a b:Nat):(a ^^^ b) / 2=a / 2 ^^^ b / 2:=Nat.xor_div_two
def KQ(a b:Nat):(a ^^^ b) % 2=(a+b) % 2:=by
 have h:(a ^^^ b) % 2 ^ 1=(a % 2 ^ 1) ^^^ (b % 2 ^ 1):=Nat.xor_mod_two_pow;simp only[Nat.pow_one]at h;rw[h]
 rcases Bw a with ha|ha<;>rcases Bw b with hb|hb<;>rw[ha,hb]<;>simp<;>omega
def z_xor(a b:Nat):z (a ^^^ b)=z a ^^^ z b:=by
 unfold z;rw[xor_div_two,KQ]
 rcases Bw a with ha|ha<;>rcases Bw b with hb|hb
 .rw[ge,ge,ge];simp
 .rw[g8,ge,g8];simp[Nat.xor_assoc]
 .rw[g8,g8,ge,Nat.xor_zero];ac_rfl
 .rw[ge,g8,g8];simp only[Nat.xor_zero];have:a / 2 ^^^ Us ^^^ (b / 2 ^^^ Us)=a / 2 ^^^ b / 2 ^^^ (Us ^^^ Us):=by ac_rfl
  rw[this];simp
def XC(q:Nat):z (2*q)=q:=by
 unfold z;rw[ge];simp
def split16(r:Nat):r=(2*(2*(2*(2*(r / 16))))) ^^^ (r % 16):=by
 have h:(2*(2*(2*(2*(r / 16)))))=2 ^ 4*(r / 16):=ls
 rw[h];have:r % 16<2 ^ 4:=ls
 rw[Nat.xor_comm];have e:r % 16 ^^^ 2 ^ 4*(r / 16)=2 ^ 4*(r / 16)+r % 16:=by
  apply Nat.eq_of_testBit_eq;intro i;rw[Nat.testBit_xor,Nat.testBit_two_pow_mul,Nat.testBit_two_pow_mul_add _ this]
  by_cases h4:i<4
  .simp[h4,Nat.not_le.2 h4]
  .have:(r % 16).testBit i=false:=Nat.testBit_lt_two_pow (qy this (Je ms ls));simp[h4,this,Bx.1 h4]
 rw[e];omega
def XD:∀n,n<16->z (z (z (z n)))=tab.getD n 0:=ms
def z4_nib(r:Nat):z (z (z (z r)))=nib r:=by
 conv=>lhs;rw[split16 r]
 simp only[z_xor,XC];rw[XD _ (qz _ ms)];rfl
def poly_lt:Us<2 ^ 32:=ms
def z_lt(h:r<4294967296):z r<4294967296:=by
 unfold z;have h1:r / 2<2 ^ 32:=ls
 split
 .exact Nat.xor_lt_two_pow h1 poly_lt
 .simpa using h1
def Pu(h:r<4294967296):nib r<4294967296:=by
 rw[<-z4_nib];exact z_lt (z_lt (z_lt (z_lt h)))
def zX(h:r<4294967296)(hc:c<256):r ^^^ c<4294967296:=
 Nat.xor_lt_two_pow (n:=32) h ls
def KZ(h:r<4294967296)(hc:c<256):cP r c<4294967296:=Pu (Pu (zX h hc))
def XE(l:UV):∀{r:Nat},r<4294967296->rR r l<4294967296:=by
 induction l with
 |nil=>intro r h;exact h
 |cons c l ih=>intro r h;exact ih (KZ h (by have:=c.toNat_lt;omega))
def Jf(l:UV):lD l<4294967296:=by unfold lD;omega
def Ut(r:Nat):rR r []=r:=rfl
def Pv(r:Nat)(l:UV)(c:UInt8):rR r (l++[c])=cP (rR r l) c.toNat:=by simp[rR]
def iU(n:Nat):UV:=[wf (n % 256),wf (n / 256 % 256),wf (n / 65536 % 256),wf (n / 16777216 % 256)]
def bM(l:UV):UV:=iU (lD l)++l
open Go.RowKit
def yv:Obj:=Pi #[Value.int IntKind.u32 0,Value.int IntKind.u32 274646895,Value.int IntKind.u32 549293790,
     Value.int IntKind.u32 820201905,Value.int IntKind.u32 1098587580,Value.int IntKind.u32 1361435347,
     Value.int IntKind.u32 1640403810,Value.int IntKind.u32 1905808397,Value.int IntKind.u32 2197175160,
     Value.int IntKind.u32 2460548119,Value.int IntKind.u32 2722870694,Value.int IntKind.u32 2987750089,
     Value.int IntKind.u32 3280807620,Value.int IntKind.u32 3553878443,Value.int IntKind.u32 3811616794,
     Value.int IntKind.u32 4084100981] 304 (0,0)
def Uu:∀n,n<16->(#[Value.int IntKind.u32 0,Value.int IntKind.u32 274646895,Value.int IntKind.u32 549293790,
     Value.int IntKind.u32 820201905,Value.int IntKind.u32 1098587580,Value.int IntKind.u32 1361435347,
     Value.int IntKind.u32 1640403810,Value.int IntKind.u32 1905808397,Value.int IntKind.u32 2197175160,
     Value.int IntKind.u32 2460548119,Value.int IntKind.u32 2722870694,Value.int IntKind.u32 2987750089,
     Value.int IntKind.u32 3280807620,Value.int IntKind.u32 3553878443,Value.int IntKind.u32 3811616794,
     Value.int IntKind.u32 4084100981]:Array By)[n]?=some (U5 .u32 (tab.getD n 0:Nat)):=by
 intro n hn;have h:n=0\/n=1\/n=2\/n=3\/n=4\/n=5\/n=6\/n=7\/n=8\/n=9\/n=10\/n=11\/n=12\/n=13\/n=14\/n=15:=ls
 rcases h with rfl|rfl|rfl|rfl|rfl|rfl|rfl|rfl|rfl|rfl|rfl|rfl|rfl|rfl|rfl|rfl<;>rfl
def XG(w:BY)(n:Nat)(hn:n<16):(w.alloc yv).cell? ⟨w.heap.size,n,none⟩=some (U5 .u32 (tab.getD n 0:Nat)):=by
 have h:(w.alloc yv).heap[w.heap.size]?=some yv:=heap_alloc_new w _;exact(cell_of_row _ _ _ _ _ _ h).trans (Uu n hn)
def vv(r c:Nat)(k:Nat):Nat:=if k=0 then r ^^^ c else if k=1 then nib (r ^^^ c)else cP r c
def Uv{r c:Nat}(hr:r<4294967296)(hc:c<256)(k:Nat):vv r c k<4294967296:=by
 unfold vv;have:=zX hr hc
 split
 .exact this
 .split
  .exact Pu this
  .exact KZ hr hc
def K8(r c k:Nat)(hk:k<2):vv r c (k+1)=nib (vv r c k):=by
 unfold vv;have h:k=0\/k=1:=ls
 rcases h with rfl|rfl<;>simp[cP]
def and15(r:Nat)(h:r<4294967296):bits .and .u32 (r:Int) 15=((r % 16:Nat):Int):=by
 have:=u32_and_nat r 15 h ls;rw[show((15:Nat):Int)=15 from rfl]at this;rw[this]
 congr 1
 exact Nat.and_two_pow_sub_one_eq_mod r 4
def wN(r c:Nat)(w:BY)(hr:r<4294967296)(hc:c<256):
  io prog 243 #[U5 .u32 r,U5 ut c] w λe w'=>e=fd (U5 .u32 (cP r c))/\i7 w w':=by
 have hx:=u32_xor_nat r c hr ls;go_in
 go_wp2
 clear hx;have HB:i7 w (w.alloc yv):=(Below.refl _ _).alloc (ai _) _;have hc':=XG w
 change Code.wp _ _ _ _ (w.alloc yv)
 generalize w.alloc yv=wr at HB hc' ⊢
 go_loop [0,11] (λreg i=> ∃k:Nat,k<=2/\i=U5 U6 k/\reg=U5 .u32 (vv r c k:Nat)) (λ_ i=>2-(intOf i).toNat)
 case atStart=>exact⟨0,ls,rfl,rfl⟩
 case round=>
  obtain⟨k,hk,rfl,rfl⟩:=hrel;have dP:=Uv hr hc k
  by_cases h:k<2
  .have HS:=xh<|K8 r c k h;generalize vv r c k=R at *;have e1:=and15 R dP;have e2:=hc' (R % 16) ls;have e3:bits .xor .u32 ((R / 16:Nat):Int) ((tab.getD (R % 16) 0:Nat):Int)=((nib R:Nat):Int):=by
    have:tab.getD (R % 16) 0<4294967296:=by
     have:∀n,n<16->tab.getD n 0<4294967296:=ms
     exact this _ ls
    rw[u32_xor_nat _ _ ls this];rfl
   clear hc'
   go_wp2
   go_round
   case rel=>exact⟨k+1,ls,by go_num,by rw[HS.o,<-e3];simp⟩
   case measure=>simp[intOf];omega
  .go_wp2
   go_ret;have:k=2:=ls
   subst this;exact⟨rfl,HB⟩
def SG(r:Nat)(hr:r<4294967296):bits BinOp.xor IntKind.u32 IntKind.u32.max (r:Int)=((4294967295-r:Nat):Int):=by
 have h:IntKind.u32.max=((4294967295:Nat):Int):=by rfl
 rw[h,u32_xor_nat _ _ ls hr]
 congr 1
 have h2:=Nat.xor_comm 4294967295 r;rw[h2];have:r ^^^ (2 ^ 32-1)=2 ^ 32-1-r:=by
  apply Nat.eq_of_testBit_eq;intro i;rw[Nat.testBit_xor,Nat.testBit_two_pow_sub_one];have h3:=Nat.testBit_two_pow_sub_succ (x:=r) (n:=32) ls i;rw[show 2 ^ 32-1-r=2 ^ 32-(r+1)from by omega,h3]
  by_cases hi:i<32
  .simp[hi]
  .simp[hi];exact Nat.testBit_lt_two_pow (qy (show r<2 ^ 32 by omega) (Je ms ls))
 exact this
def Uw(s:Nm)(k:Nat)(h:k<s.size):s.data.toList.take (k+1)=s.data.toList.take k++[s[k]]:=by
 rw[ij (by simpa using h)];rfl
def XH(r:Nat)(s:Nm)(w:BY)(hr:r<4294967296)(hs:s.size<=sh):
  io prog 226 #[U5 .u32 r,U7 s] w λe w'=>e=fd (U5 .u32 ((4294967295-rR (4294967295-r) s.data.toList:Nat):Int))/\i7 w w':=by
 have hx:=SG r hr;have Ko:rR (4294967295-r) []<4294967296:=by show 4294967295-r<_;omega
 unfold sh at hs;go_in
 go_wp2
 clear hx
 go_loopw [5,6,11] (λreg _ i wr=> ∃k:Nat,k<=s.size/\i=U5 U6 k/\reg=U5 .u32 ((rR (4294967295-r) (s.pu.take k):Nat):Int)/\i7 w wr) (λ_ _ i _=>s.size-(intOf i).toNat)
 case atStart=>exact⟨0,bG _,rfl,rfl,Below.refl _ _⟩
 case round=>
  obtain⟨k,hk,rfl,rfl,hb⟩:=hrel;have dP:=XE (s.pu.take k) Ko;simp only[Ut]at dP
  by_cases h:k<s.size
  .have HS:=g9 (rR (4294967295-r) (s.pu.take (k+1))=cP (rR (4294967295-r) (s.pu.take k)) s[k].toNat) (by rw[Uw s k h,Pv]);go_wp2_with (go_at_call 243;go_call (wN _ _ _ dP (by have:=s[k].toNat_lt;omega)) as e w1 ⟨rfl,bu⟩);go_roundw
   case rel=>exact⟨k+1,ls,by go_num,by rw[HS.o],hb.trans (bu.mono hb.size)⟩
   case measure=>simp[intOf];omega
  .have Ou:=SG _ dP;have ht:s.pu.take k=s.pu:=cR (by simp;omega);rw[ht]at Ou;rw[ht]
   go_wp2
   go_ret;exact⟨rfl,hb⟩
def CR(n:Nat)(w:BY)(hn:n<4294967296):
  io prog 202 #[U5 .u32 n] w λe w'=>e=fd (.agg #[U5 ut (n % 256:Nat),U5 ut (n / 256 % 256:Nat),U5 ut (n / 65536 % 256:Nat),U5 ut (n / 16777216 % 256:Nat)])/\i7 w w':=by
 go_in
 go_wp2
 refine wp_loop_rounds 5 ?_;rw[rounds_succ]
 go_wp2
 rw[rounds_succ]
 go_wp2
 rw[rounds_succ]
 go_wp2
 rw[rounds_succ]
 go_wp2
 rw[rounds_succ]
 go_wp2
 refine bodyPost_ret (v:= .agg #[U5 ut (n % 256:Nat),U5 ut (n / 256 % 256:Nat),U5 ut (n / 65536 % 256:Nat),U5 ut (n / 16777216 % 256:Nat)]) ?_ rfl ⟨rfl,?_⟩
 .simp[results,Tryz.results202,go_sem];omega
 .exact((Below.refl _ _).alloc (ai _) _).alloc lw _
def Jg(s:Nm)(w:BY)(hs:s.size<=sh):
  io prog 203 #[U7 s] w λe w'=>e=fd (U5 .u32 (lD s.data.toList:Nat))/\i7 w w':=by
 go_in;go_wp2_with (go_at_call 226;go_call (XH 0 _ _ ls hs) as e w1 ⟨rfl,bu⟩);go_ret;exact⟨rfl,bu⟩
def kI:(prog.info? 5).map (λi=>(i.zero,i.size,i.bytes))=some (some (U5 ut 0),1,1):=pm
def m8:(prog.info? 5).map (·.size)=some 1:=pm
def qB(n:Int)(h0:0<=n)(h1:n<=140737488355328)(w:BY):
  (Instr.makeSlice 150 n n).run prog w=.ok (U3 (lc w.heap.size) n.toNat n.toNat) (w.alloc (Pi (madeCells #[U5 ut 0] n.toNat) 5)):=by
 obtain⟨i0,hi,lC,kH,lM⟩:=info_parts kI;have h:=run_make (P:=prog) w 150 5 i0 (U5 ut 0) underlying150 hi lC U6 U6 n n h0 (dG _) (by rw[lM];omega) ls;simpa [kH,Value.cells]using h
def ki(n:Nat):List By:=[U5 ut ((n:Int) % 256),U5 ut ((n:Int) / 256 % 256),U5 ut ((n:Int) / 65536 % 256),U5 ut ((n:Int) / 16777216 % 256)]
def wO(n:Nat):ki n=fq (iU n):=by
 have t:∀n:Nat,(wf (n % 256)).toNat=n % 256:=λn=>by simp
 simp only[ki,fq,iU,List.map,bv,t];rfl
def Ux(n:Nat):∀v∈ki n,v.oneCell'=true:=by rw[wO];exact tN _
def Gz(l:UV)(n:Nat)(hn:n=l.length)(z:By):putAt (putAt (it (4+n) z) 0 (ki (lD l))) 4 (fq (l.take n))=fq (bM l):=by
 subst hn;have h4:(ki (lD l)).length=4:=rfl;have e1:putAt (it (4+l.length) z) 0 (ki (lD l))=ki (lD l)++it l.length z:=by
  simp[putAt,h4]
 rw[e1,bM,jT,<-wO];unfold putAt;rw[lz (by simp[h4]),cR (by simp[h4]),lT (by simp[h4])];simp
def BC(s:Nm)(w:BY)(hs:s.size<=100000000):
  io prog 158 #[U7 s] w λe w'=>e=fd (U7 ⟨(bM s.data.toList).toArray⟩)/\i7 w w':=by
 have hmk:=λw'=>qB (4+s.size) ls ls w';go_in;go_wp2_with (first|(go_at_call 203;go_call (Jg _ _ (by unfold sh;omega)) as e w1 ⟨rfl,bu⟩)|(go_at_call 202;go_call (CR _ _ (Jf _)) as e w2 ⟨rfl,da⟩));clear hmk;rw[jB]at bu;have kH:w.heap.size<w1.heap.size:=by have:=bu.size;simp at this;omega
 have lM:w.heap.size<w2.heap.size:=by have:=da.size;omega
 have B1:aM w2 w.heap.size 5 (it (4+s.size) (U5 ut 0)).toArray:=((aM.new _ _ _).below bu lw).below da kH;have B2:=B1.alloc (Pi (ki (lD s.pu)).toArray 257);have B3:=aM.new w2 257 (ki (lD s.pu)).toArray;have O3:i7 w (w2.alloc (Pi (ki (lD s.pu)).toArray 257)):=
  ((((Below.refl _ _).alloc (ai _) _).trans (bu.mono lw)).trans (da.mono ls)).alloc ls _
 change Oper.upon _ _ _ _ _ ((Sem.run _ _ (w2.alloc (Pi (ki (lD s.pu)).toArray 257))).andThen _)
 generalize (w2.alloc (Pi (ki (lD s.pu)).toArray 257))=W at B2 B3 O3 ⊢;obtain⟨W4,e4,B4,O4⟩:=vu (P:=prog) B2 150 150 3 5 0 (4+s.size) (4+s.size) ⟨w2.heap.size,0,none⟩ 4 4 (ki (lD s.pu)) underlying150 m8
  (by show 4=min 4 (4+s.size);omega) (bT B3 0 _ lw) (by show 0+4<=_;simp) (Ux _)
 rw[e4];clear e4 B1 B2 B3;have O5:=O3.trans (O4.bI O3.size lw)
 go_wp2
 .have hs0:s=ByteArray.empty:=by assumption
  obtain⟨W5,e5,B5,O6⟩:=oM (P:=prog) B4 150 9 3 5 0 0 0 ByteArray.empty 0 underlying150 m8 (by rfl) lw;have eb:putAt (putAt (it (4+s.size) (U5 ut 0)) 0 (ki (lD s.pu))) 0 (fq (ByteArray.empty.pu.take 0))=fq (bM s.pu):=by
   subst hs0;have:=Gz ByteArray.empty.pu 0 rfl (U5 ut 0);rw[<-this,jK];exact(yt _ _).trans (yt _ _).symm
  rw[eb]at B5;have x6:=cQ (P:=prog) W5 150 9 5 underlying150 underlying5 underlying9 ⟨w.heap.size,0,none⟩ 4 4 (bM s.pu) (by subst hs0;rfl) (bT B5 0 _ lw);rw[e5];have O7:=O5.trans (O6.bI O5.size lw);clear e5 B4 B5 eb
  go_wp2
  go_ret;exact⟨by subst hs0;rfl,O7⟩
 .obtain⟨W5,e5,B5,O6⟩:=oM (P:=prog) B4 150 9 3 5 4 s.size s.size s s.size underlying150 m8 lw (by rw[lB (by show 0+4<=_;simp)];simp);rw[Gz _ _ lw]at B5;have x6:=cQ (P:=prog) W5 150 9 5 underlying150 underlying5 underlying9 ⟨w.heap.size,0,none⟩ (4+s.size) (4+s.size) (bM s.pu) (by simp[bM,iU];omega) (bT B5 0 _ lw);rw[e5];have O7:=O5.trans (O6.bI O5.size lw)
  clear e5 B4 B5
  go_wp2
  go_ret;exact⟨rfl,O7⟩
def wP(s:Nm):(s.extract 0 4).data.toList=s.data.toList.take 4:=by
 rw[IL,Sy,IQ];simp
def XI(s:Nm)(w:BY)(h4:4<=s.size)(hs:s.size<=sh)(hc:iU (lD (s.data.toList.drop 4))=s.data.toList.take 4):
  io prog 180 #[U7 s] w λe w'=>e=fd (rg #[U7 (s.extract 4 s.size),U5 U6 0])/\i7 w w':=by
 unfold sh at hs;have hN:lD (List.take (s.size-4) (List.drop 4 s.pu))<4294967296:=Jf _;obtain⟨N,eN⟩:∃N,lD (List.take (s.size-4) (List.drop 4 s.pu))=N:=⟨_,rfl⟩;have HC:=xh (show iU N=s.pu.take 4 from by
  rw[<-hc,<-eN,cR lw])
 clear hc;rw[eN]at hN;go_in;go_wp2_with (first|(go_at_call 203;go_call (Jg _ _ (by simp;unfold sh;omega)) as e w1 ⟨rfl,bu⟩)|(go_at_call 202;go_call (CR _ _ hN) as e w2 ⟨rfl,da⟩));clear eN;have B3:aM (w2.alloc (Pi (ki N).toArray 257)) w2.heap.size 257 (fq (s.pu.take 4)).toArray:=by
  rw[wO,HC.o];exact aM.new _ _ _
 have O3:i7 w (w2.alloc (Pi (ki N).toArray 257)):=
  (bu.trans (da.mono bu.size)).alloc (aD bu.size da.size) _
 change Code.wp _ _ _ _ (w2.alloc (Pi (ki N).toArray 257))
 generalize (w2.alloc (Pi (ki N).toArray 257))=W at B3 O3 ⊢;have x6:=λn=>cQ (P:=prog) (W.drewN n) 150 9 5 underlying150 underlying5 underlying9 ⟨w2.heap.size,0,none⟩ 4 4 (s.pu.take 4) (by simp;omega) (bT (B3.drewN n) 0 (fq (s.pu.take 4)) lw);go_quiet (fail);have hq:(!List.take 4 s.pu==(s.extract 0 4).toList)=false:=by rw[cM,wP];simp
 rw[hq]
 go_wp2
 go_ret2;exact⟨rfl,dC O3 _⟩
def zY(s:Nm)(w:BY)(h4:4<=s.size)(hs:s.size<=sh)(hc:iU (lD (s.data.toList.drop 4))≠s.data.toList.take 4):
  io prog 180 #[U7 s] w λe w'=>e=fd (rg #[U7 ⟨#[]⟩,U5 U6 14])/\i7 w w':=by
 unfold sh at hs;have hN:lD (List.take (s.size-4) (List.drop 4 s.pu))<4294967296:=Jf _;obtain⟨N,eN⟩:∃N,lD (List.take (s.size-4) (List.drop 4 s.pu))=N:=⟨_,rfl⟩;have HC:=xh (show iU N≠s.pu.take 4 from by
  intro e;apply hc;rw[<-e,<-eN,cR lw])
 clear hc;rw[eN]at hN;go_in;go_wp2_with (first|(go_at_call 203;go_call (Jg _ _ (by simp;unfold sh;omega)) as e w1 ⟨rfl,bu⟩)|(go_at_call 202;go_call (CR _ _ hN) as e w2 ⟨rfl,da⟩));clear eN;have B3:aM (w2.alloc (Pi (ki N).toArray 257)) w2.heap.size 257 (fq (iU N)).toArray:=by
  rw[wO];exact aM.new _ _ _
 have O3:i7 w (w2.alloc (Pi (ki N).toArray 257)):=
  (bu.trans (da.mono bu.size)).alloc (aD bu.size da.size) _
 change Code.wp _ _ _ _ (w2.alloc (Pi (ki N).toArray 257))
 generalize (w2.alloc (Pi (ki N).toArray 257))=W at B3 O3 ⊢;have x6:=λn=>cQ (P:=prog) (W.drewN n) 150 9 5 underlying150 underlying5 underlying9 ⟨w2.heap.size,0,none⟩ 4 4 (iU N) rfl (bT (B3.drewN n) 0 (fq (iU N)) lw);go_quiet (fail);have hq:(!iU N==(s.extract 0 4).toList)=true:=by rw[cM,wP];simpa using HC.o
 rw[hq]
 go_wp2
 go_ret2;exact⟨rfl,dC O3 _⟩
end ky
namespace Pk
open Go.RowKit
attribute [local go_sem ↓] bP
def beK(N k:Nat):UV:=(List.range k).map λj=>wf (N / 256 ^ (7-j))
def yw(N:Nat):UV:=beK N 8
def XJ(N k:Nat):beK N (k+1)=beK N k++[wf (N / 256 ^ (7-k))]:=by
 unfold beK;rw[I8,eS];rfl
def qC(N k:Nat):(beK N k).length=k:=by simp[beK]
def XK(n:Nat):Value.int ut ((n:Int) % 256)=bv (wf n):=by
 unfold bv
 congr 1
def vx(N p:Nat):Value.int ut ((N:Int) / (p:Int) % 256)=bv (wf (N / p)):=by
 rw[<-Int.natCast_ediv];exact XK _
def mC{N k vc:Nat}{VA:Option Addr}{w wr:BY}(S:bm wr 5 1 (U3 VA k vc) k (fq (beK N k)))(O:i7 w wr)(F:∀x∈ak (U3 VA k vc),w.heap.size<=x)(hk:k<8)(u:Int)(hu:Value.int ut u=bv (wf (N / 256 ^ (7-k)))):
  ∃V2 nc w2,Hid (eM prog 150 150 (wr.alloc (Pi #[U5 ut u] 5)) (U3 VA k vc) (U3 (lc wr.heap.size) 1 1)= .ok (U3 V2 (k+1) nc) w2)/\Hid (bm w2 5 1 (U3 V2 (k+1) nc) (k+1) (fq (beK N (k+1))))/\Hid (i7 w w2)/\Hid (∀x∈ak (U3 V2 (k+1) nc),w.heap.size<=x):=by
 obtain⟨v',w2,ea,S2,ow,fr⟩:=gw (P:=prog) S 150 150 (U5 ut 0) 1 underlying150 ky.kI rfl (U5 ut u) rfl (by unfold sh;omega) ls;obtain⟨V2,nc,rfl⟩:=aI S2;rw[hu]at S2;exact⟨V2,nc,w2,ea,by rw[XJ,jT];exact S2,O.trans (ow.bI O.size F),λx hx=>(fr x hx).elim (F x) (λh=>aD O.size h)⟩
def j6(N:Nat)(hN:N<18446744073709551616)(w:BY):
  io prog 141 #[U3 none 0 0,U5 .u64 (N:Int),U5 U6 8] w λe w'=>(∃v,e=fd v/\bm w' 5 1 v 8 (fq (yw N)))/\i7 w w':=by
 go_in;go_wp2_with fail
 go_loopw [0,7] (λsv iv wr=> ∃(k:Nat),k<=8/\iv=U5 U6 (7-(k:Int))/\bm wr 5 1 sv k (fq (beK N k))/\i7 w wr/\Hid (∀x∈ak sv,w.heap.size<=x)) (λ_ iv _=>(intOf iv+1).toNat)
 case atStart=>exact⟨0,ls,rfl,bm.nil _ _ _,Below.refl _ _,xh (by simp[ak])⟩
 case round=>
  obtain⟨k,hk,rfl,S,O,F⟩:=hrel;obtain⟨VA,vc,rfl⟩:=aI S;have XL:k=0\/k=1\/k=2\/k=3\/k=4\/k=5\/k=6\/k=7\/k=8:=ls
  rcases XL with rfl|rfl|rfl|rfl|rfl|rfl|rfl|rfl|rfl
  rotate_right
  .have SX:=xh S;have OX:=xh O;clear S O;go_wp2;go_ret;exact⟨⟨_,rfl,SX.o⟩,OX.o⟩
  obtain⟨V2,nc,w2,EA,SX,OX,FX⟩:=mC S O F.o ls ((N:Int) / 72057594037927936) (by rw[<-vx N 72057594037927936];congr 1;omega);rotate_left;obtain⟨V2,nc,w2,EA,SX,OX,FX⟩:=mC S O F.o ls ((N:Int) / 281474976710656 % 256) (vx N 281474976710656);rotate_left;obtain⟨V2,nc,w2,EA,SX,OX,FX⟩:=mC S O F.o ls ((N:Int) / 1099511627776 % 256) (vx N 1099511627776);rotate_left
  obtain⟨V2,nc,w2,EA,SX,OX,FX⟩:=mC S O F.o ls ((N:Int) / 4294967296 % 256) (vx N 4294967296);rotate_left;obtain⟨V2,nc,w2,EA,SX,OX,FX⟩:=mC S O F.o ls ((N:Int) / 16777216 % 256) (vx N 16777216);rotate_left;obtain⟨V2,nc,w2,EA,SX,OX,FX⟩:=mC S O F.o ls ((N:Int) / 65536 % 256) (vx N 65536);rotate_left;obtain⟨V2,nc,w2,EA,SX,OX,FX⟩:=mC S O F.o ls ((N:Int) / 256 % 256) (vx N 256);rotate_left
  obtain⟨V2,nc,w2,EA,SX,OX,FX⟩:=mC S O F.o ls ((N:Int) % 256) ((XK N).trans (by rw[ik,Nat.pow_zero,Nat.div_one]));rotate_left
  all_goals
   clear S O;go_wp2_with fail;rw[EA.o];go_wp2;go_roundw
   case rel=>exact⟨_,ls,by first|rfl|simp,SX.o,OX.o,FX⟩
   case measure=>first|decide|simp[intOf]
def fM(n:Int):UV:=yw ((n+9223372036854775808) % 18446744073709551616).toNat
def I_any(n:Int)(h0:0<=n)(h1:n<=1099511627776)(w:BY):
  io prog 88 #[n] w λe w'=>e=fd (U7 ⟨(fM n).toArray⟩)/\i7 w w':=by
 obtain⟨m,rfl⟩:=fu h0;have hN:(((m:Int)+9223372036854775808) % 18446744073709551616).toNat=m+9223372036854775808:=ls
 have hNI:((m+9223372036854775808:Nat):Int)=(m:Int)+9223372036854775808:=ls
 have K:=xh<|j6 (m+9223372036854775808) ls w;rw[hNI]at K;unfold fM;rw[hN];have e1:IntKind.u64.wrap (m:Int)=(m:Int):=gc;have e2:IntKind.u64.wrap ((m:Int)+9223372036854775808)=(m:Int)+9223372036854775808:=gc;clear hN hNI;go_in;go_wp2_with fail;go_call K.o as e w1 ⟨⟨v,rfl,S⟩,hb⟩;obtain⟨g,cap,rest,rfl,B,hc,_⟩:=S.form ls ls
 have ST:=xh<|cQ (P:=prog) w1 150 9 5 underlying150 underlying5 underlying9 ⟨g,0,none⟩ 8 cap (yw (m+9223372036854775808)) rfl (bT B 0 _ (by intro j u hu;rw[bV];exact bX (aW.1 hu).1▸hu));have HB:=xh hb;clear hb S B;go_wp2_with fail;rw[ST.o];go_wp2;go_ret;exact⟨rfl,HB.o⟩
end Pk
namespace Pk
open Go.RowKit
def qD(l:UV):Nat:=l.foldl (λn b=>n*256+b.toNat) 0
def XM(l:UV)(b:UInt8):qD (l++[b])=qD l*256+b.toNat:=by simp[qD]
def beN_lt'(l:UV):∀n:Nat,l.foldl (λn b=>n*256+b.toNat) n<(n+1)*256 ^ l.length:=by
 induction l with
 |nil=>intro n;simp
 |cons b l ih=>
  intro n;have h1:=ih (n*256+b.toNat);have h2:=b.toNat_lt;rw[CD,jh,Nat.pow_succ];refine qy h1 ?_;rw[show(n+1)*(256 ^ l.length*256)=((n+1)*256)*256 ^ l.length by rw[Jd,tL (256 ^ l.length) 256]];exact Nat.mul_le_mul_right _ ls
def Jh(l:UV):qD l<256 ^ l.length:=by
 have:=beN_lt' l 0;rw[bV,Nat.one_mul]at this;exact this
def or_join(n b:Nat)(hn:n<72057594037927936)(hb:b<256):bits .or .u64 ((n:Int)*256) (b:Int)=((n*256+b:Nat):Int):=by
 have h:=bits_or_u64_nat (n*256) b ls ls;rw[show((n*256:Nat):Int)=(n:Int)*256 by omega]at h;rw[h];have:=Nat.two_pow_add_eq_or_of_lt (i:=8) hb n;rw[show 2 ^ 8*n=n*256 by omega]at this;rw[<-this]
def get_any(s:Nm)(hs:s.size=8)(w:BY):
  io prog 187 #[U7 s] w λe w'=>e=fd (U5 .u64 (qD s.data.toList:Nat))/\i7 w w':=by
 have HL:=g9 (s.pu.length=8) (by simpa using hs);go_in;go_wp2_with fail
 go_loopw [3,7] (λnv iv wr=> ∃(i:Nat),i<=8/\nv=U5 .u64 (qD (s.pu.take i):Nat)/\iv=U5 U6 i/\i7 w wr) (λ_ iv _=>8-(intOf iv).toNat)
 case atStart=>exact⟨0,ls,by simp[qD],rfl,Below.refl _ _⟩
 case round=>
  obtain⟨i,hi,rfl,rfl,O⟩:=hrel
  by_cases h:i<8
  .have hsi:i<s.size:=ls
   have hlen:=HL.o;have hT:s.pu.take (i+1)=s.pu.take i++[s[i]]:=by
    rw[ij ls];rfl
   have dP:=Jh (s.pu.take i);rw[bY]at dP;have XN:qD (s.pu.take i)<72057594037927936:=qy dP (aD (Je ls (show min i s.pu.length<=7 by omega)) ms);have hN:qD (s.pu.take (i+1))=qD (s.pu.take i)*256+s[i].toNat:=by rw[hT,XM]
   obtain⟨n,hn⟩:∃n,qD (s.pu.take i)=n:=⟨_,rfl⟩;rw[hn]at XN hN ⊢;have hb:=s[i].toNat_lt;have HV:=xh<|or_join n s[i].toNat XN hb;have HN:=xh hN;have Xc:(i:Int)<8:=ls
   have hiS:(i:Int)<(s.size:Int):=ls
   have v1:IntKind.u64.wrap (s[i].toNat:Int)=(s[i].toNat:Int):=gc;have v2:IntKind.u64.wrap ((n:Int)*256)=(n:Int)*256:=gc;have OX:=xh O;clear hT dP hN hn O;go_wp2_with fail;rw[HV.o];exact⟨⟨i+1,ls,by rw[HN.o],by go_num,OX.o⟩,by simp[intOf];omega⟩
  .obtain rfl:i=8:=ls
   have hlen:=HL.o;have OX:=xh O;rw[cR ls];clear O;go_wp2;go_ret;exact⟨rfl,OX.o⟩
def CT(s:Nm)(at_ n:Int)(w:BY)(h0:0<=at_)(h1:at_+n<=s.size)(hn:0<=n)(hs:s.size<=1000000):
  io prog 186 #[U7 s,at_,n] w λe w'=>e=fd (U5 U6 0)/\i7 w w':=by
 have a1:¬at_<0:=ls
 have a2:¬(s.size:Int)<at_:=ls
 have a3:U6.wrap ((s.size:Int)-at_)=(s.size:Int)-at_:=d9;have a4:¬(s.size:Int)-at_<n:=ls
 go_in;go_wp2;go_ret;exact⟨rfl,Below.refl _ _⟩
def GA(s:Nm)(k:Nat)(w:BY)(h1:k+8<=s.size)(hs:s.size<=1000000):
  io prog 142 #[U7 s,(k:Nat)] w λe w'=>e=fd (rg #[U5 .u64 (qD ((s.extract k (k+8)).data.toList):Nat),U5 U6 ((k:Int)+8),U5 U6 0])/\i7 w w':=by
 have pC:(s.extract k (k+8)).size=8:=by rw[rK];omega
 have KL:=xh<|CT s (k:Nat) 8 w ls ls ls hs;have KG:=xh (λw=>get_any (s.extract k (k+8)) pC w);obtain⟨N,hN⟩:∃N,qD ((s.extract k (k+8)).data.toList)=N:=⟨_,rfl⟩;rw[hN]at KG ⊢;clear hN;have e1:U6.wrap ((k:Int)+8)=(k:Int)+8:=d9;have e2:(0:Int)<=(k:Int)+8:=ls
 have e3:((k:Int)+8).toNat=k+8:=ls
 have e4:(k:Int)<=(k:Int)+8:=ls
 have e5:(k:Int)+8<=(s.size:Int):=ls
 go_in;go_wp2_with fail;go_call KL.o as e w1 ⟨rfl,bu⟩;have O1:=xh bu;clear bu;go_wp2_with fail;go_call (KG.o _) as e w2 ⟨rfl,da⟩;have O2:=xh<|aE O1.o da;clear da;go_wp2_with fail
 go_ret3
 exact⟨rfl,O2.o⟩
def tO(s:Nm)(k:Nat)(w:BY)(h1:k+8<=s.size)(hs:s.size<=1000000):
  io prog 89 #[U7 s,(k:Nat)] w λe w'=>e=fd (rg #[U5 U6 ((qD ((s.extract k (k+8)).data.toList):Int)-9223372036854775808),U5 U6 ((k:Int)+8),U5 U6 0])/\i7 w w':=by
 have pC:(s.extract k (k+8)).size=8:=by rw[rK];omega
 have dP:=Jh (s.extract k (k+8)).data.toList;rw[show(s.extract k (k+8)).data.toList.length=8 from pC]at dP;have KU:=xh<|GA s k w h1 hs;obtain⟨N,hN⟩:∃N,qD ((s.extract k (k+8)).data.toList)=N:=⟨_,rfl⟩;rw[hN]at KU dP ⊢;have HV:=xh (show wrap64 (IntKind.u64.wrap ((N:Int)+9223372036854775808))=(N:Int)-9223372036854775808 from by
  rw[IntKind.wrap_u64];unfold wrap64;omega)
 clear hN dP pC;go_in;go_wp2_with fail;go_call KU.o as e w1 ⟨rfl,bu⟩;have O1:=xh bu;clear bu;go_wp2_with fail
 go_ret3
 refine⟨?_,O1.o⟩;have hv:=HV.o;simp only[Xq,dr,yq,CE,j0,hv]
end Pk
namespace Pg
open Go.RowKit Pk
variable{w:BY}
noncomputable def CU(P:Program)(T U ty:us)(w:BY)(s x:By):Result By:=(Builtin.append_ #[T,U] ty #[s,x]).run P w
def tP(P:Program)(ρ:Operand->By)(dst:Option Tmp)(s x:Operand)(T U t:us)(p:String)(af:Array Edge)(g:Option (Nat×Bool))(w:BY):
  (execOp ρ {dst:=dst,op:= .call {callee:= .builtin .append,args:= #[s,x],argTypes:= #[T,U]},type:=t,pos:=p,after:=af,guard:=g}).run P w=(CU P T U t w (ρ s) (ρ x)).andThen λv w'=> .ok (.value v) w':=by
 simp[execOp,resolve,invoke,builtin,CU]
def Ji(n:Nat):(Builtin.zeroCells (Value.int ut 0).cells n).toList=it n (Value.int ut 0):=by
 apply vq
 .simp[Builtin.zeroCells,Value.cells]
 .intro i h1 h2;simp[Builtin.zeroCells,Value.cells,Nat.mod_one]
def vy{P:Program}{e:us}{v:By}{n:Nat}{l:List By}(h:bm w e 1 v n l)
 (T U ty:us)(ht:P.underlying T=some (.slice e))(hu:P.underlying U=some .string)(pE:(P.info? e).map (λi=>(i.zero,i.size,i.bytes))=some (some (U5 ut 0),1,1))
 (s:Nm)(KK:n+s.size<=140737488355328):
  ∃v' w',CU P T U ty w v (U7 s)= .ok v' w'/\bm w' e 1 v' (n+s.size) (l++fq s.data.toList)/\ah (ak v) w w'/\(∀g∈ak v',g∈ak v\/w.heap.size<=g):=by
 obtain⟨i,hi,hz,CK,hby⟩:=info_parts pE;have Ov:Lib.strCells s=fq s.data.toList:=rfl;have hlen:(fq s.data.toList).length=s.size:=by simp
 have wM:=h.1
 rcases h.2 with⟨rfl,rfl⟩|⟨g,cap,rest,rfl,B,hc,hm⟩
 .have Gd:l=[]:=pf (by simpa using h.1);subst Gd;obtain⟨v',w',hr,h2,h3,_⟩:=Lib.run_append_own_string (P:=P) w w.heap.size T U ty e i ht hu hi hz CK hby (U3 none 0 0) 0 [] (World.ownsRow_nil _ _ _ _) s (by unfold sh;omega) (by omega) (ai _);refine⟨v',w',hr,.CJ h2,(ah.refl _ _).grown h3 (by simp[Value.ownBlock]),?_⟩;intro g hg
  rcases h2.2 with⟨rfl,_⟩|⟨g',cap,cur,rfl,hb,_⟩
  .simp[ak]at hg
  .simp[ak]at hg;subst hg;exact .inr hb
 .by_cases hr:n+s.size<=cap
  .have hf:=Lib.run_firstCells_string (P:=P) w 1 s;have x6:=run_storeCells_cells (P:=P) g n (fq s.data.toList) 0 w (λj hj=>by rw[B.cell];simp at hj ⊢;omega) (λj hj=>B.frozen _ (by simp at hj ⊢;omega)) (tN _);refine⟨U3 (some ⟨g,0,none⟩) (n+s.size) cap,w.setCells g n (fq s.data.toList),?_,⟨by simp;omega,.inr ⟨g,cap,rest.drop s.size,rfl,?_,by simp;omega,hm⟩⟩,(ah.refl _ _).setCells _ _ (by simp[ak]),by simp[ak]⟩
   .simp only[mq]at x6;rw[Ov]at hf;simp[CU,Builtin.append_,run_underlying ht,run_underlying hu,sizeOf,typeInfo,hi,CK,Builtin.lenOf,hr,hf,Addr.add_lit,x6]
   .have B2:=B.setCells (fq s.data.toList) n (by simp;omega);have e2:putAt (l++rest) n (fq s.data.toList)=l++fq s.data.toList++rest.drop s.size:=by
     unfold putAt;have:l.length=n:=by omega
     rw[hlen,<-this,tI,<-jF,vj]
    rwa [e2]at B2
  .have CO:=Lib.run_append_grow_string (P:=P) w T U ty e i (U5 ut 0) ht hu hi hz ⟨g,0,none⟩ n cap l (by rw[CK];exact h.1) (bT B 0 l (by intro j u hu;rw[bV];exact bX (aW.1 hu).1▸hu)) s (by omega) (by omega) (by rw[hby];exact growslice_fits (by omega) (by omega));have CH:=grownCap_ge w (n+s.size) cap e;have rS:=grownCap_le_maxLen w (n+s.size) cap e (by unfold sh;omega)
   refine⟨_,_,CO,⟨by simp;omega,.inr ⟨w.heap.size,_,it (grownCap w (n+s.size) cap e-(n+s.size)) (Value.int ut 0),rfl,?_,by simp;omega,rS⟩⟩,(ah.refl _ _).drew.alloc _,by simp[ak]⟩;have B3:=aM.new w.drew e (l.toArray++(Lib.strCells s).toArray++Builtin.zeroCells (Value.int ut 0).cells (grownCap w (n+s.size) cap e-(n+s.size)))
   have e3:l.toArray++(Lib.strCells s).toArray++Builtin.zeroCells (Value.int ut 0).cells (grownCap w (n+s.size) cap e-(n+s.size))=(l++fq s.data.toList++it (grownCap w (n+s.size) cap e-(n+s.size)) (Value.int ut 0)).toArray:=by
    apply rk.1;simp only[Array.toList_append,Ov]
    congr 1
    exact Ji _
   rw[<-e3];exact B3
def I_all(m:Nat)(h1:m<9223372036854775808)(w:BY):
  io prog 88 #[(m:Nat)] w λe w'=>e=fd (U7 ⟨(fM m).toArray⟩)/\i7 w w':=by
 have hN:(((m:Int)+9223372036854775808) % 18446744073709551616).toNat=m+9223372036854775808:=ls
 have hNI:((m+9223372036854775808:Nat):Int)=(m:Int)+9223372036854775808:=ls
 have K:=xh<|j6 (m+9223372036854775808) ls w;rw[hNI]at K;unfold fM;rw[hN];have e1:IntKind.u64.wrap (m:Int)=(m:Int):=gc;have e2:IntKind.u64.wrap ((m:Int)+9223372036854775808)=(m:Int)+9223372036854775808:=gc;clear hN hNI;go_in;go_wp2_with fail;go_call K.o as e w1 ⟨⟨v,rfl,S⟩,hb⟩;obtain⟨g,cap,rest,rfl,B,hc,_⟩:=S.form ls ls
 have ST:=xh<|cQ (P:=prog) w1 150 9 5 underlying150 underlying5 underlying9 ⟨g,0,none⟩ 8 cap (yw (m+9223372036854775808)) rfl (bT B 0 _ (by intro j u hu;rw[bV];exact bX (aW.1 hu).1▸hu));have HB:=xh hb;clear hb S B;go_wp2_with fail;rw[ST.o];go_wp2;go_ret;exact⟨rfl,HB.o⟩
def U_any(m:Nat)(h1:m<18446744073709551616)(w:BY):
  io prog 253 #[U5 .u64 (m:Nat)] w λe w'=>e=fd (U7 ⟨(yw m).toArray⟩)/\i7 w w':=by
 have K:=xh<|j6 m h1 w;go_in;go_wp2_with fail;go_call K.o as e w1 ⟨⟨v,rfl,S⟩,hb⟩;obtain⟨g,cap,rest,rfl,B,hc,_⟩:=S.form ls ls;have ST:=xh<|cQ (P:=prog) w1 150 9 5 underlying150 underlying5 underlying9 ⟨g,0,none⟩ 8 cap (yw m) rfl (bT B 0 _ (by intro j u hu;rw[bV];exact bX (aW.1 hu).1▸hu));have HB:=xh hb;clear hb S B
 go_wp2_with fail;rw[ST.o];go_wp2;go_ret;exact⟨rfl,HB.o⟩
def jw(id ep kd:Int)(s:Nm):By:= .agg #[U5 U6 id,U5 U6 ep,U5 U6 kd,U7 s]
def XO(id ep kd:Int)(s:Nm):Array By:= #[U5 U6 id,U5 U6 ep,U5 U6 kd,U7 s]
def Ow(id ep kd:Int):Bool:=decide (0<=id) && decide (0<=ep) && decide (ep<=1099511627776) && decide (0<=kd) && decide (kd<=2147483647)
def qE(id ep kd:Int):Ow id ep kd=true↔0<=id/\0<=ep/\ep<=1099511627776/\0<=kd/\kd<=2147483647:=by
 unfold Ow;simp only[jI,decide_eq_true_eq];omega
def ag{W w1:BY}(h:i7 W w1)(o:Obj):i7 W (w1.alloc o):=h.alloc h.size o
def qF(id ep kd:Int)(s:Nm)(b:Bool)(hb:Ow id ep kd=b):
  io prog 222 #[jw id ep kd s] w λe w'=>e=fd (.bool b)/\i7 w w':=by
 have B0:=aM.new w 162 (XO id ep kd s);have O0:=xh<|i6 w (Pi (XO id ep kd s) 162);unfold XO at B0 O0;have c0:(w.alloc (Pi #[id,ep,kd,U7 s] 162)).cell? (lc w.heap.size)=some (id:li):=B0.bi 0;have c1:(w.alloc (Pi #[id,ep,kd,U7 s] 162)).cell? ⟨w.heap.size,1,none⟩=some (ep:li):=B0.bi 1
 have c2:(w.alloc (Pi #[id,ep,kd,U7 s] 162)).cell? ⟨w.heap.size,2,none⟩=some (kd:li):=B0.bi 2;clear B0;unfold Ow at hb;have HB:=xh hb;clear hb;unfold jw
 by_cases h1:0<=id
 .by_cases h2:0<=ep
  .by_cases h3:ep<=1099511627776
   .by_cases h4:0<=kd
    .by_cases h5:kd<=2147483647
     all_goals
      go_in;go_wp2;go_ret;exact⟨by rw[<-HB.o];first|(simp[h1,h2,h3,h4,h5];done)|(simp[h1,h2,h3,h4,h5];omega),O0.o⟩
    .go_in;go_wp2;go_ret;exact⟨by rw[<-HB.o];first|(simp[h1,h2,h3,h4];done)|(simp[h1,h2,h3,h4];omega),O0.o⟩
   .go_in;go_wp2;go_ret;exact⟨by rw[<-HB.o];first|(simp[h1,h2,h3];done)|(simp[h1,h2,h3];omega),O0.o⟩
  .go_in;go_wp2;go_ret;exact⟨by rw[<-HB.o];first|(simp[h1,h2];done)|(simp[h1,h2];omega),O0.o⟩
 .go_in;go_wp2;go_ret;exact⟨by rw[<-HB.o];first|(simp[h1];done)|(simp[h1];omega),O0.o⟩
variable{w:BY}{v:By}{l:UV}{w0 gb:Nat}
structure oP(w0:Nat)(w:BY)(gb:Nat)(v:By)(l:UV):Prop where
 ya:aM w gb 150 #[v]
 Uy:bm w 5 1 v l.length (fq l)
 own:∀g∈ak v,w0<=g
 low:w0<=gb
def eg{e t:us}{size n b:Nat}{l:List By}{cs:Array By}(h:bm w e size v n l)(B:aM w b t cs)(fy:t≠e):b∉ak v:=by
 rcases h.2 with⟨rfl,_⟩|⟨g,cap,rest,rfl,B2,_⟩
 .simp[ak]
 .intro hb;simp[ak]at hb;subst hb;exact B.mx B2 fy rfl
def oP.below{w':BY}(h:oP w0 w gb v l)(hb:i7 w w'):oP w0 w' gb v l:=⟨h.ya.below hb h.ya.lt,h.Uy.below hb,h.own,h.low⟩
def oP.grow{w1:BY}{v':By}{m:UV}(h:oP w0 w gb v l)(hw:w0<=w.heap.size)(S:bm w1 5 1 v' (l.length+m.length) (fq (l++m)))(o:ah (ak v) w w1)(fr:∀g∈ak v',g∈ak v\/w.heap.size<=g):
  w1.cell? (lc gb)=some v/\w1.frozen? ⟨gb,0,none⟩=false/\oP w0 (w1.setCell ⟨gb,0,none⟩ v') gb v' (l++m)/\Below w0 w (w1.setCell ⟨gb,0,none⟩ v'):=by
 have hn:gb∉ak v:=eg h.Uy h.ya ms;have B1:=h.ya.only o hn;have B2:=B1.ct 0 v';have hn':gb∉ak v':=eg S B1 ms;have o2:=(ah.refl [gb] w1).setCell (p:=⟨gb,0,none⟩) lw v';refine⟨B1.ae rfl,B1.frozen 0 lw,⟨B2,?_,λg hg=>(fr g hg).elim (h.own g) (λh=>aD hw h),h.low⟩,?_⟩
 .rw[bC];exact S.only o2 (λg hg=>by
   intro h1
   rcases aG.1 h1 with rfl
   exact hn' hg)
 .have ow:ah (ak v++[gb]) w (w1.setCell ⟨gb,0,none⟩ v'):=(o.mono (λx hx _=>cL _ hx)).trans (o2.mono (λx hx _=>cv _ hx));exact ow.bI hw (λx hx=>(aK.1 hx).elim (h.own x) (λh1=>by rcases aG.1 h1 with rfl;exact h.low))
section
attribute [local go_sem ↓] tP
def BF(h:oP w0 w gb v l)(hw:w0<=w.heap.size)(s:Nm)(hs:l.length+s.size<=1000000):
  io prog 252 #[U7 s,lc gb] w λe w'=>e=fd (rg #[])/\(∃v',oP w0 w' gb v' (l++s.data.toList))/\Below w0 w w':=by
 have c0:w.cell? (lc gb)=some v:=h.ya.ae rfl;obtain⟨v',w1,ea,S1,ow,fr⟩:=vy (P:=prog) h.Uy 150 9 150 underlying150 underlying9 ky.kI s ls;have pC:s.pu.length=s.size:=lw
 rw[<-jT,<-pC]at S1;obtain⟨V2,nc,rfl⟩:=aI S1;obtain⟨c1,z1,B2,O2⟩:=h.grow hw S1 ow fr;obtain⟨V1,Pw,rfl⟩:=aI h.Uy;have EA:=xh ea;have BX:=xh B2;have OX:=xh O2;clear ea S1 ow fr B2 O2 h pC;go_in;go_wp2_with fail;rw[EA.o];go_wp2_with fail
 go_end0
 exact⟨rfl,⟨_,BX.o⟩,OX.o⟩
end
def mD(id ep kd:Int)(s:UV):UV:=fM id++fM ep++(yw kd.toNat).drop 4++s
def ff(l:UV)(n:Nat):UV:=l++it (n-l.length) 0
def lP(id ep kd:Int)(s:UV):UV:=ky.bM (ff (mD id ep kd s) 252)
def dh(id ep kd:Int)(s:UV):UV×Int:=if Ow id ep kd=true then(if 232<s.length then([],4)else(lP id ep kd s,0))else([],2)
def pput_no(id ep kd:Int)(s:Nm)(h:Ow id ep kd=false):
  io prog 242 #[jw id ep kd s] w λe w'=>e=fd (rg #[U7 ⟨#[]⟩,U5 U6 2])/\i7 w w':=by
 have O0:=xh<|i6 w (Pi #[id,ep,kd,U7 s] 162);have B0:=aM.new w 162 #[id,ep,kd,U7 s];have c0:=B0.bi 0;have c1:=B0.bi 1;have c2:=B0.bi 2;have c3:=B0.bi 3;have K:=xh (λw=>qF (w:=w) id ep kd s false h);clear h B0;unfold jw at *;go_in;go_wp2_with fail;refine(K.o _).mono ?_
 rintro e w1 ⟨rfl,bu⟩;have O1:=xh<|aE O0.o bu;clear bu;go_wp2;go_ret2;exact⟨rfl,O1.o⟩
attribute [local go_sem ↓] bP
def gW(n:Int):(fM n).length=8:=by unfold fM yw;rw[qC]
def Xd(u:Nm)(a b:Nat):(u.extract a b).data.toList=(u.data.toList.drop a).take (b-a):=by
 rw[IL,Sy,IQ]
def qG(n:Nat):(yw n).length=8:=by unfold yw;rw[qC]
def mE(l:UV):(⟨l.toArray⟩:Nm).size=l.length:=by show l.toArray.size=_;simp
def XP{w:BY}(id ep kd:Nat)(s:Nm)(hid:id<9223372036854775808)(vz:ep<=1099511627776)(wu:kd<=2147483647)(hs:s.size<=232):
  io prog 242 #[jw id ep kd s] w λe w'=>e=fd (rg #[U7 ⟨(lP id ep kd s.data.toList).toArray⟩,U5 U6 0])/\i7 w w':=by
 have fN:Ow id ep kd=true:=by rw[qE];omega
 have B0:=aM.new w 162 #[(id:Nat),(ep:Nat),(kd:Nat),U7 s];have O0:=xh<|i6 w (Pi #[(id:Nat),(ep:Nat),(kd:Nat),U7 s] 162);have KR:=xh (λw=>qF (w:=w) id ep kd s true fN);have c0:=B0.bi 0;have c1:=B0.bi 1;have c2:=B0.bi 2;have c3:=B0.bi 3;have B0:=xh B0;have XR:¬(232:Int)<(s.size:Int):=ls
 unfold jw at *;go_in;go_wp2_with fail;go_call (KR.o _) as e w1 ⟨rfl,bu⟩;have O1:=xh<|aE O0.o bu;have B1:=xh<|B0.o.below bu B0.o.lt;have a1:=O1.o.size;have a2:w.heap.size<w1.heap.size:=B1.o.lt;clear c0 c1 c2 c3 bu B0 O0;have c3:=B1.ap 3;have B2:=xh<|B1.o.alloc (Pi #[U3 none 0 0] 150);have O2:=xh<|ag O1.o (Pi #[U3 none 0 0] 150)
 have F2:Hid (oP w1.heap.size (w1.alloc (Pi #[U3 none 0 0] 150)) w1.heap.size (U3 none 0 0) []):=xh ⟨aM.new _ _ _,bm.nil _ _ _,by simp[ak],ai _⟩;have z2:w1.heap.size<=(w1.alloc (Pi #[U3 none 0 0] 150)).heap.size:=lw
 have d0:=B2.ap 0;have KI:=xh<|I_all id hid;have KE:=xh<|I_all ep ls;have KU:=xh<|U_any kd ls;have HS:=xh hs;go_wp2_with fail;go_call (KI.o _) as e w3 ⟨rfl,gK⟩;have O3:=xh<|aE O2.o gK;have B3:=xh<|B2.o.below gK B2.o.lt;have F3:=xh<|F2.o.below gK;have z3:=aD z2 gK.size;clear d0 gK B2 O2 F2 z2 c3;go_wp2_with fail
 go_call (BF F3.o z3 _ (by rw[mE,gW];simp)) as e w4 ⟨rfl,⟨v4,f4⟩,iZ⟩;have O4:=xh<|O3.o.trans (iZ.mono a1);have B4:=xh<|B3.o.below iZ a2;have F4:=xh f4;have z4:=aD z3 iZ.size;clear f4 iZ O3 B3 F3 z3;have d1:=B4.ap 1;go_wp2_with fail;go_call (KE.o _) as e w5 ⟨rfl,oQ⟩;have O5:=xh<|aE O4.o oQ;have B5:=xh<|B4.o.below oQ B4.o.lt;have F5:=xh<|F4.o.below oQ
 have z5:=aD z4 oQ.size;clear oQ O4 B4 F4 z4;clear d1;go_wp2_with fail;go_call (BF F5.o z5 _ (by simp[gW,mE])) as e w6 ⟨rfl,⟨v6,f6⟩,vA⟩;have O6:=xh<|O5.o.trans (vA.mono a1);have B6:=xh<|B5.o.below vA a2;have F6:=xh f6;have z6:=aD z5 vA.size;clear f6 vA O5 B5 F5 z5;have d2:=B6.ap 2;have q1:IntKind.u64.wrap (kd:Int)=(kd:Int):=gc
 obtain⟨U,hU⟩:∃U:Nm,(⟨(yw kd).toArray⟩:Nm)=U:=⟨_,rfl⟩;have hU8:U.size=8:=by rw[<-hU,mE,qG]
 have hUl:(U.extract 4 8).data.toList=(yw kd).drop 4:=by
  rw[<-hU,Xd];exact cR (by rw[ef];have:=qG kd;simp[this])
 rw[hU]at KU;have HU:=xh hU;have HUL:=xh hUl;clear hU hUl;go_wp2_with fail;go_call (KU.o _) as e w7 ⟨rfl,oC⟩;have O7:=xh<|aE O6.o oC;have B7:=xh<|B6.o.below oC B6.o.lt;have F7:=xh<|F6.o.below oC;have z7:=aD z6 oC.size;clear oC O6 B6 F6 z6;clear d2;go_wp2_with fail;go_call (BF F7.o z7 _ (by simp[gW,mE,rK];omega)) as e w8 ⟨rfl,⟨v8,f8⟩,AW⟩
 have O8:=xh<|O7.o.trans (AW.mono a1);have B8:=xh<|B7.o.below AW a2;have F8:=xh f8;have z8:=aD z7 AW.size;clear f8 AW O7 B7 F7 z7;have d3:=B8.ap 3;go_wp2_with fail;go_call (BF F8.o z8 _ (by simp[gW,mE,rK];omega)) as e w9 ⟨rfl,⟨v9,f9⟩,hb9⟩;have O9:=xh<|O8.o.trans (hb9.mono a1);have B9:=xh<|B8.o.below hb9 a2;have F9:=xh f9;have z9:=aD z8 hb9.size
 clear f9 hb9 O8 B8 F8 z8;clear d3;have L9:=xh (show([]++fM (id:Int)++fM (ep:Int)++(U.extract 4 8).data.toList++s.pu)=mD id ep kd s.pu from by rw[HUL.o,dD];rfl);have F9:=g9 (oP w1.heap.size w9 w1.heap.size v9 (mD id ep kd s.pu)) (by have h:=F9.o;rw[<-L9.o];exact h);have HB:=xh (show(mD id ep kd s.pu).length=20+s.size from by unfold mD;simp[gW,qG];omega)
 obtain⟨L,hL⟩:∃L,mD (id:Int) ep kd s.pu=L:=⟨_,rfl⟩;rw[hL]at F9 HB;have HL:=xh hL;clear hL;clear L9 HU HUL hU8 KI KE KU KR;go_wp2_with fail
 go_loopg [37] 253 (λk lv wr=> ∃v j,20+s.size+j<=252/\253-(20+s.size+j)<=k/\Hid (oP w1.heap.size wr w1.heap.size v (L++it j 0))/\Hid (i7 w wr)/\w1.heap.size<=wr.heap.size)
 case atStart=>exact⟨v9,0,ls,ls,xh (by rw[I9,kM];exact F9.o),xh O9.o,z9⟩
 case round=>
  obtain⟨v,j,hj,hk,F,O,z⟩:=hrel;have hlen:(L++it j 0).length=20+s.size+j:=by rw[bC,HB.o,eG]
  have e0:=F.o.ya.bi 0;have hsv:=F.o.Uy;rw[hlen]at hsv;obtain⟨VA,vc,rfl⟩:=aI hsv
  by_cases h':20+s.size+j<252
  .have hI:((20+s.size+j:Nat):Int)<252:=ls
   obtain⟨v',w2,ea,S2,ow,fr⟩:=gw (P:=prog) hsv 150 150 (U5 ut 0) 1 underlying150 ky.kI rfl (U5 ut 0) rfl (by unfold sh;omega) ls;obtain⟨V2,nc,rfl⟩:=aI S2;have S3:bm w2 5 1 (U3 V2 (20+s.size+j+1) nc) ((L++it j 0).length+[(0:UInt8)].length) (fq (L++it j 0++[0])):=by
    rw[hlen,jT];exact S2
   obtain⟨c1,z1,B2,O2⟩:=F.o.grow z S3 ow fr;have z2:w1.heap.size<=(w2.setCell ⟨w1.heap.size,0,none⟩ (U3 V2 (20+s.size+j+1) nc)).heap.size:=by
    have:=ow.size;simp[World.setCell];omega
   have EA:=xh ea;have BX:=xh (show oP w1.heap.size (w2.setCell ⟨w1.heap.size,0,none⟩ (U3 V2 (20+s.size+j+1) nc)) w1.heap.size (U3 V2 (20+s.size+j+1) nc) (L++it (j+1) 0)from by
    rw[Bo,<-cV];exact B2)
   have OX:=xh<|O.o.trans (O2.mono a1);clear ea S2 S3 ow fr B2 O2 hsv hlen;go_wp2_with fail;rw[EA.o];go_wp2_with fail
   go_roundg (253-(20+s.size+(j+1)))
   case measure=>omega
   case rel=>exact⟨_,j+1,ls,ai _,BX,OX,z2⟩
  .have hje:20+s.size+j=252:=ls
   have hpad:L++it j 0=ff L 252:=by unfold ff;rw[HB.o];congr 2;omega
   rw[hpad]at F;have tQ:(ff L 252).length=252:=by rw[<-hpad,hlen,hje]
   rw[hje]at e0 hsv;rw[hpad]at hsv;clear hpad hlen;obtain⟨g,cap,rest,hv,B,_⟩:=hsv.form ls ls;injection hv with rB rl Kp
   subst rB Kp;have ST:=xh<|cQ (P:=prog) wr 150 9 5 underlying150 underlying5 underlying9 ⟨g,0,none⟩ 252 vc (ff L 252) tQ (bT B 0 _ (by intro j u hu;rw[bV];exact bX (aW.1 hu).1▸hu));have KL:=xh<|ky.BC ⟨(ff L 252).toArray⟩ wr (by rw[mE,tQ];omega);have HF:=g9 (ky.bM (ff L 252)=lP id ep kd s.pu) (by unfold lP;rw[HL.o])
   clear F B hsv tQ;go_wp2_with fail;rw[ST.o];go_wp2_with fail;go_call KL.o as e wz ⟨rfl,hbz⟩;have OZ:=xh<|aE O.o hbz;clear hbz;go_wp2;go_ret2;exact⟨by rw[<-HF.o];rfl,OZ.o⟩
end Pg
namespace Pg
open Go.RowKit Pk
variable{w:BY}{g:Nat}
structure PG where
 id:Int
 ep:Int
 kd:Int
 s:UV
def PG.zero:PG:=⟨0,0,0,[]⟩
def PG.val(p:PG):By:=jw p.id p.ep p.kd ⟨p.s.toArray⟩
def lN(l:UV):PG:=⟨(qD ((l.drop 4).take 8):Int)-9223372036854775808,(qD ((l.drop 12).take 8):Int)-9223372036854775808,(qD ((l.drop 20).take 4):Nat),l.drop 24⟩
def jx(l:UV):PG×Int:=
 if l.length≠256 then(.zero,6)
 else if ky.iU (ky.lD (l.drop 4))≠l.take 4 then(.zero,14)
 else if Ow (lN l).id (lN l).ep (lN l).kd=true then(lN l,0)else(.zero,14)
def Uz(l:UV):qD ([0,0,0,0]++l)=qD l:=by simp[qD]
def eO{fn:Func}{p u:Tmp}{id ep kd:Int}{s:Nm}{tmps:Array By}(h:fn.results= #[.cell p 162,.tmp u])(hp:tmps.getD p undef=.pointer (some ⟨g,0,none⟩))(B:aM w g 162 #[id,ep,kd,U7 s]):
  (results fn tmps).run prog w=.ok (rg #[jw id ep kd s,tmps.getD u undef]) w:=by
 have c0:=B.bi 0;have c1:=B.bi 1;have c2:=B.bi 2;have c3:=B.bi 3;rw[results_cell_tmp h,hp];clear h hp B;unfold jw;go_simp
abbrev lE:Array By:= #[U5 U6 0,U5 U6 0,U5 U6 0,U7 ⟨#[]⟩]
def lU{cs:Array By}(B:aM w g 162 cs)(hc:cs.size=4)(id ep kd:Int)(s:Nm):
  aM ((((w.setCell ⟨g,0,none⟩ id).setCell ⟨g,1,none⟩ ep).setCell ⟨g,2,none⟩ kd).setCell ⟨g,3,none⟩ (U7 s)) g 162 #[id,ep,kd,U7 s]:=by
 obtain⟨a,b,c,d,rfl⟩:∃a b c d,cs= #[a,b,c,d]:=by
  obtain⟨l⟩:=cs
  match l,hc with
  |[a,b,c,d],_=>exact⟨a,b,c,d,rfl⟩
 exact(((B.ct 0 id).ct 1 ep).ct 2 kd).ct 3 (U7 s)
def iE{W:BY}(h:i7 W w)(hg:W.heap.size<=g)(id ep kd:Int)(s:Nm):
  i7 W ((((w.setCell ⟨g,0,none⟩ id).setCell ⟨g,1,none⟩ ep).setCell ⟨g,2,none⟩ kd).setCell ⟨g,3,none⟩ (U7 s)):=
 (((h.setCell (p:=⟨g,0,none⟩) hg _).setCell (p:=⟨g,1,none⟩) hg _).setCell (p:=⟨g,2,none⟩) hg _).setCell (p:=⟨g,3,none⟩) hg _
def XS(s:Nm)(h:s.size≠256):
  io prog 185 #[U7 s] w λe w'=>e=fd (rg #[PG.zero.val,U5 U6 6])/\i7 w w':=by
 have B0:=xh<|aM.new w 162 lE;have O0:=xh<|i6 w (Pi lE 162);have hI:((s.size:Int) != 256)=true:=by rw[bne_iff_ne];omega
 go_in;go_wp2;exact bodyPost_ret (eO rfl rfl B0.o) rfl ⟨rfl,O0.o⟩
def Jj(s:Nm)(h:s.size=256)(hc:ky.iU (ky.lD (s.data.toList.drop 4))≠s.data.toList.take 4):
  io prog 185 #[U7 s] w λe w'=>e=fd (rg #[PG.zero.val,U5 U6 14])/\i7 w w':=by
 have B0:=xh<|aM.new w 162 lE;have O0:=xh<|i6 w (Pi lE 162);have hI:((s.size:Int) != 256)=false:=by rw[bne_eq_false_iff_eq];omega
 have K:=xh (λw=>ky.zY s w ls (by unfold sh;omega) hc);clear hc;go_in;go_wp2_with fail;go_call (K.o _) as e w1 ⟨rfl,bu⟩;have O1:=xh<|aE O0.o bu;have B1:=xh<|B0.o.below bu B0.o.lt;clear bu;have z0:=B1.o.frozen 0 lw;have z1:=B1.o.frozen 1 lw;have z2:=B1.o.frozen 2 lw;have z3:=B1.o.frozen 3 lw;have c0:=B1.ap 0;have c1:=B1.ap 1
 have c2:=B1.ap 2;have c3:=B1.ap 3;have ZB:=xh<|lU B1.o rfl 0 0 0 ⟨#[]⟩;have ZO:=xh<|iE O1.o (ai _) 0 0 0 ⟨#[]⟩;go_wp2;exact bodyPost_ret (eO rfl rfl ZB.o) rfl ⟨rfl,ZO.o⟩
def CY(s:Nm)(h:s.size=256)(hc:ky.iU (ky.lD (s.data.toList.drop 4))=s.data.toList.take 4)(b:Bool)(hb:Ow (lN s.data.toList).id (lN s.data.toList).ep (lN s.data.toList).kd=b):
  io prog 185 #[U7 s] w λe w'=>e=fd (rg #[if b then(lN s.data.toList).val else PG.zero.val,U5 U6 (if b then 0 else 14)])/\i7 w w':=by
 have B0:=xh<|aM.new w 162 lE;have O0:=xh<|i6 w (Pi lE 162);have hI:((s.size:Int) != 256)=false:=by rw[bne_eq_false_iff_eq];omega
 have K:=λw=>ky.XI s w (by omega) (by unfold sh;omega) hc;obtain⟨T,hT⟩:∃T,s.extract 4 s.size=T:=⟨_,rfl⟩;rw[hT]at K;have hTs:T.size=252:=by rw[<-hT,rK];omega
 have BH:T.data.toList=s.data.toList.drop 4:=by rw[<-hT,Xd];exact cR (by simp)
 have K:=xh K;have KI:=xh<|tO T 0 (h1:=by omega) (hs:=by omega);have KJ:=xh<|tO T 8 (h1:=by omega) (hs:=by omega);obtain⟨U,hU⟩:∃U,(⟨#[0,0,0,0]⟩:Nm)++T.extract 16 20=U:=⟨_,rfl⟩;have hUs:U.size=8:=by rw[<-hU,Cw,rK];show 4+_=8;omega
 have KU:=xh<|GA U 0 (h1:=by omega) (hs:=by omega);have hUl:U.data.toList=[0,0,0,0]++(s.data.toList.drop 20).take 4:=by
  rw[<-hU,ByteArray.data_append,Array.toList_append,Xd,BH,jF]
 obtain⟨P,hP⟩:∃P,T.extract 20 252=P:=⟨_,rfl⟩;have hPl:P.data.toList=s.data.toList.drop 24:=by
  rw[<-hP,Xd,BH,jF];exact cR (by simp;omega)
 obtain⟨N,hN⟩:∃N,qD ((s.data.toList.drop 20).take 4)=N:=⟨_,rfl⟩;have hNlt:N<4294967296:=by
  have h1:=Jh ((s.data.toList.drop 20).take 4);have h2:((s.data.toList.drop 20).take 4).length=4:=by simp;omega
  rw[h2,hN]at h1;omega
 have e1:((qD (T.extract 0 (0+8)).data.toList:Nat):Int)-9223372036854775808=(lN s.data.toList).id:=by rw[Xd,BH];rfl
 have e2:((qD (T.extract 8 (8+8)).data.toList:Nat):Int)-9223372036854775808=(lN s.data.toList).ep:=by rw[Xd,BH,jF];rfl
 have e3:qD (U.extract 0 (0+8)).data.toList=N:=by
  rw[Xd,CB,cR (by simp;omega),hUl,Uz,hN]
 rw[e1]at KI;rw[e2]at KJ;rw[e3]at KU;have wu:(lN s.data.toList).kd=(N:Int):=by rw[<-hN];rfl
 have HV:=xh (show(lN s.data.toList).val=jw (lN s.data.toList).id (lN s.data.toList).ep N P from by
  have:P=⟨(lN s.data.toList).s.toArray⟩:=by
   have:P.data=(s.data.toList.drop 24).toArray:=by rw[<-hPl]
   cases P;simp only at this;subst this;rfl
  rw[this,<-wu];rfl)
 have i1: -9223372036854775808<=(lN s.data.toList).id/\(lN s.data.toList).id<=9223372036854775807:=by
  have h1:=Jh ((s.data.toList.drop 4).take 8);have h2:((s.data.toList.drop 4).take 8).length=8:=by simp;omega
  rw[h2]at h1;show -9223372036854775808<=((qD _:Nat):Int)-9223372036854775808/\((qD _:Nat):Int)-9223372036854775808<=9223372036854775807;omega
 rw[wu]at hb;generalize (lN s.data.toList).id=id at *;generalize (lN s.data.toList).ep=ep at *;generalize (lN s.data.toList).val=V at *;have q1:U6.wrap (N:Int)=(N:Int):=d9;have KR:=xh (λw=>qF (w:=w) id ep N P b hb);unfold jw at KR;clear hc hT hb e1 e2 e3 wu hN hUl BH hPl;go_in;go_wp2_with fail;go_call (K.o _) as e w1 ⟨rfl,bu⟩;have O1:=xh<|aE O0.o bu
 have B1:=xh<|B0.o.below bu B0.o.lt;clear bu O0 B0;go_wp2_with fail;go_call (KI.o _) as e w2 ⟨rfl,da⟩;have O2:=xh<|aE O1.o da;have B2:=xh<|B1.o.below da B1.o.lt;clear da O1 B1;go_wp2_with fail;go_call (KJ.o _) as e w3 ⟨rfl,gK⟩;have O3:=xh<|aE O2.o gK;have B3:=xh<|B2.o.below gK B2.o.lt;clear gK O2 B2;go_wp2_with fail;go_call (KU.o _) as e w4 ⟨rfl,iZ⟩
 have O4:=xh<|ag (aE O3.o iZ) (Pi #[U5 U6 id,U5 U6 ep,U5 U6 (N:Int),U7 P] 162);have B4:=xh<|(B3.o.below iZ B3.o.lt).alloc (Pi #[U5 U6 id,U5 U6 ep,U5 U6 (N:Int),U7 P] 162);have P4:=xh<|aM.new w4 162 #[U5 U6 id,U5 U6 ep,U5 U6 (N:Int),U7 P];clear iZ O3 B3;go_wp2_with fail;generalize Px:w4.alloc (Pi #[U5 U6 id,U5 U6 ep,U5 U6 (N:Int),U7 P] 162)=w5 at *;clear Px
 go_call (KR.o _) as e w6 ⟨rfl,vA⟩;have O6:=xh<|aE O4.o vA;have B6:=xh<|B4.o.below vA B4.o.lt;have P6:=xh<|P4.o.below vA P4.o.lt;have z0:=B6.o.frozen 0 (by simp);have z1:=B6.o.frozen 1 (by simp);have z2:=B6.o.frozen 2 (by simp);have z3:=B6.o.frozen 3 (by simp);have c0:=B6.ap 0;have c1:=B6.ap 1;have c2:=B6.ap 2;have c3:=B6.ap 3
 have p0:=P6.ap 0;have p1:=P6.ap 1;have p2:=P6.ap 2;have p3:=P6.ap 3;clear vA O4 B4 P4
 cases b
 .have ZB:=xh<|lU B6.o rfl 0 0 0 ⟨#[]⟩;have ZO:=xh<|iE O6.o (ai _) 0 0 0 ⟨#[]⟩;go_wp2;exact bodyPost_ret (eO rfl rfl ZB.o) rfl ⟨rfl,ZO.o⟩
 .have ZB:=xh<|lU B6.o rfl id ep N P;have ZO:=xh<|iE O6.o (ai _) id ep N P;go_wp2;exact bodyPost_ret (eO rfl rfl ZB.o) rfl ⟨by rw[HV.o];rfl,ZO.o⟩
attribute [local go_sem ↓] bP
end Pg
namespace Pg
open Go.RowKit Pk
variable{w:BY}
def XU(id ep kd:Int)(s:Nm)(h:Ow id ep kd=true)(hs:232<s.size):
  io prog 242 #[jw id ep kd s] w λe w'=>e=fd (rg #[U7 ⟨#[]⟩,U5 U6 4])/\i7 w w':=by
 have O0:=xh<|i6 w (Pi #[id,ep,kd,U7 s] 162);have B0:=xh<|aM.new w 162 #[id,ep,kd,U7 s];have c0:=B0.ap 0;have c1:=B0.ap 1;have c2:=B0.ap 2;have c3:=B0.ap 3;have K:=xh (λw=>qF (w:=w) id ep kd s true h);have hI:(232:Int)<(s.size:Int):=ls
 clear h;unfold jw at *;go_in;go_wp2_with fail;go_call (K.o _) as e w1 ⟨rfl,bu⟩;have O1:=xh<|aE O0.o bu;have B1:=xh<|B0.o.below bu B0.o.lt;clear bu c0 c1 c2 c3;have c3:=B1.ap 3;go_wp2;go_ret2;exact⟨rfl,O1.o⟩
def XV(N:Nat):(yw N).drop 4=[wf (N / 16777216),wf (N / 65536),wf (N / 256),wf N]:=by
 have e:yw N=[wf (N / 72057594037927936),wf (N / 281474976710656),wf (N / 1099511627776),wf (N / 4294967296),wf (N / 16777216),wf (N / 65536),wf (N / 256),wf (N / 1)]:=rfl;rw[e,Nat.div_one];rfl
def XW(id ep kd:Int)(s:UV)(h:s.length<=232):fM id++fM ep++(yw kd.toNat).drop 4++ff s 232=ff (mD id ep kd s) 252:=by
 unfold ff mD;have h1:(fM id++fM ep++(yw kd.toNat).drop 4++s).length=20+s.length:=by simp[gW,qG];omega
 rw[h1,<-cV]
 congr 2;omega
def La(id ep kd:Int)(s:Nm)(hid:id<=9223372036854775807):
  io prog 242 #[jw id ep kd s] w λe w'=>e=fd (rg #[U7 ⟨(dh id ep kd s.data.toList).1.toArray⟩,U5 U6 (dh id ep kd s.data.toList).2])/\i7 w w':=by
 have hl:s.pu.length=s.size:=lw
 unfold dh;rw[hl]
 by_cases h:Ow id ep kd=true
 .rw[U8 h]
  by_cases hs:232<s.size
  .rw[U8 hs];exact XU id ep kd s h hs
  .rw[U9 hs];have hb:=(qE id ep kd).1 h;obtain⟨a,rfl⟩:=fu hb.1;obtain⟨b,rfl⟩:=fu hb.2.1;obtain⟨c,rfl⟩:=fu hb.2.2.2.1;exact XP a b c s ls ls ls ls
 .rw[U9 h];exact pput_no id ep kd s (by simpa using h)
def XX{w:BY}(s:Nm):
  io prog 185 #[U7 s] w λe w'=>e=fd (rg #[(jx s.data.toList).1.val,U5 U6 (jx s.data.toList).2])/\i7 w w':=by
 have hl:s.pu.length=s.size:=lw
 unfold jx;rw[hl]
 by_cases h:s.size=256
 .rw[ge]
  by_cases hc:ky.iU (ky.lD (s.pu.drop 4))=s.pu.take 4
  .rw[U9 (by simpa using hc)]
   by_cases hb:Ow (lN s.pu).id (lN s.pu).ep (lN s.pu).kd=true
   .rw[U8 hb];simpa using CY (w:=w) s h hc true hb
   .rw[U9 hb];simpa using CY (w:=w) s h hc false (by simpa using hb)
  .rw[U8 hc];exact Jj s h hc
 .rw[U8 h];exact XS s h
end Pg
end Go.Proofs.YtmonobkginiajaaGreat
