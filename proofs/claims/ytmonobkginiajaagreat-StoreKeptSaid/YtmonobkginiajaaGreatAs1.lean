/- packed. -/
import Derived.Deep.RegionHeld
import Derived.Test.YtmonobkginiajaaGreatRows
import Derived.WalkKit
import Derived.Handy
import Derived.Deep.DrawnRows
import Derived.ProofKit
import Derived.OpenShut
import Derived.SizedLaws
import Derived.JoinedCond
import Derived.WalkLawsBesides
import Derived.WalkSpells
import Derived.Lib.Hide
import Derived.Laws.CopyOwn
import Derived.Deep.Draws
import Derived.Laws.Rows
import Derived.SliceStrings
import Derived.OrdersHeld
import Derived.Deep.QuietTactic
import Derived.BigQuiet
import Derived.Laws.Bits64b
set_option linter.all false
set_option maxRecDepth 100000
set_option maxHeartbeats 8000000
namespace Go
theorem RowKit.Hid.o{p:Prop}(h:RowKit.Hid p):p:=h
theorem Shut.o{p:Prop}(h:Shut p):p:=h
theorem RowKit.Hid.ap{w:World}{g:Nat}{t:TypeId}{cs:Array Value}(h:RowKit.Hid (∃lo hi,w.heap[g]?=some (.cells cs t (lo,hi))/\(lo=hi\/cs.size<=lo)))(i:Nat){v:Value}(hv:cs[i]?=some v:=by exact rfl):w.cell? ⟨g,i,none⟩=some v:=by
 obtain⟨lo,hi,h,_⟩:=h.o;exact(cell_of_row w g i cs t (lo,hi) h).trans hv
end Go
namespace Go.Proofs.YtmonobkginiajaaGreat
open Go.Proofs.Tryz
abbrev pu:=List UInt8
abbrev rd:=ByteArray
open Value renaming string→U2,slice→U3,int→U5
open Ending renaming returned→BY
open IntKind renaming i64→By,u8→Nm,u32→Pi
open Obj renaming cells→WF
open Go renaming World→YB,Value→YO,Calls→eq,maxLen→it,TypeId→pm
open List renaming replicate→fd
open UInt8 renaming ofNat→gn
section
theorem xh{p:Prop}(h:p):RowKit.Hid p:=h
def VS:=@Array.eq_empty_of_size_eq_zero
def VT:=@Array.getD_eq_getD_getElem?
def VU:=@Array.getElem?_eq_none
def VV:=@Array.length_toList
def VW:=@Array.toList_append
def VX:=@Array.toList_extract
def qP:=@Array.toList_inj
def EJ:=@Bool.and_comm
def iG:=@Bool.and_eq_true
def QP:=@Bool.eq_false_iff
def AH:=@Bool.eq_iff_iff
def mJ:=@Bool.false_eq_true
def GG:=@Bool.not_eq_true
def pZ:=@Bool.or_eq_true
def MX:=@Bool.true_and
def GH:=@ByteArray.data_append
def MY:=@ByteArray.data_extract
def jQ:=@ByteArray.ext
def AJ:=@ByteArray.size_append
def xi:=@ByteArray.size_extract
def GI:=@Int.add_sub_cancel
def dZ:=@Int.eq_ofNat_of_zero_le
def ki:=@Int.le_refl
def MZ:=@Int.tdiv_eq_ediv_of_nonneg
def iJ:=@Int.toNat_natCast
def uq:=@Int.toNat_of_nonneg
def oN:=@List.all_eq_true
def cK:=@List.append_assoc
def M5:=@List.append_eq_nil_iff
def M6:=@List.append_inj'
def jR:=@List.append_nil
def nL:=@List.cons_append
def ur:=@List.countP_append
def uu:=@List.countP_congr
def AK:=@List.countP_eq_length_filter
def M8:=@List.countP_eq_zero
def xj:=@List.countP_le_length
def GJ:=@List.countP_map
def M9:=@List.countP_singleton
def Na:=@List.count_append
def Nb:=@List.count_cons
def uv:=@List.drop_append_of_le_length
def ji:=@List.drop_drop
def rh:=@List.drop_eq_getElem_cons
def lJ:=@List.drop_eq_nil_of_le
def uw:=@List.drop_left
def Nc:=@List.drop_length
def GK:=@List.drop_of_length_le
def GL:=@List.drop_succ_cons
def GM:=@List.drop_zero
def oO:=@List.eq_nil_of_length_eq_zero
def ux:=@List.eq_nil_or_concat
def oP:=@List.eq_of_mem_replicate
def xo:=@List.exists_mem_of_ne_nil
def xq:=@List.ext_getElem
def nM:=@List.ext_getElem?
def Nf:=@List.extract_eq_take_drop
def ri:=@List.filter_append
def gG:=@List.filter_cons
def Ng:=@List.filter_eq_nil_iff
def xr:=@List.filter_eq_self
def oQ:=@List.filter_filter
def GN:=@List.filter_sublist
def Nh:=@List.findIdx_cons
def rj:=@List.findIdx_getElem
def p8:=@List.findIdx_le_length
def Ni:=@List.findIdx_lt_length
def uy:=@List.flatMap_append
def im:=@List.flatMap_cons
def AM:=@List.foldl_cons
def Nj:=@List.foldl_nil
def iq:=@List.getD_eq_getElem?_getD
def bE:=@List.getElem?_append_left
def dQ:=@List.getElem?_append_right
def rk:=@List.getElem?_cons_succ
def uz:=@List.getElem?_cons_zero
def iK:=@List.getElem?_drop
def aH:=@List.getElem?_eq_getElem
def gH:=@List.getElem?_eq_none
def aR:=@List.getElem?_eq_some_iff
def ir:=@List.getElem?_map
def lK:=@List.getElem?_of_mem
def GO:=@List.getElem?_replicate
def jj:=@List.getElem?_set
def iu:=@List.getElem?_set_ne
def eu:=@List.getElem?_set_self
def uA:=@List.getElem?_take
def rl:=@List.getElem?_take_of_lt
def cN:=@List.getElem?_toArray
def uB:=@List.getElem_map
def jS:=@List.getElem_mem
def p9:=@List.getElem_of_mem
def AN:=@List.getElem_range
def Nk:=@List.getElem_take
def Nl:=@List.getLast?_map
def Nn:=@List.insertIdx_succ_cons
def aT:=@List.length_append
def fT:=@List.length_cons
def ev:=@List.length_drop
def GQ:=@List.length_eq_zero_iff
def GR:=@List.length_eraseIdx_of_lt
def QQ:=@List.length_erase_of_mem
def oC:=@List.length_filter_le
def zS:=@List.length_insertIdx
def bM:=@List.length_map
def vv:=@List.length_nil
def zT:=@List.length_pos_iff
def GS:=@List.length_range
def eR:=@List.length_replicate
def bV:=@List.length_set
def vx:=@List.length_singleton
def bC:=@List.length_take
def cX:=@List.map_append
def fW:=@List.map_congr_left
def fA:=@List.map_cons
def gR:=@List.map_map
def oE:=@List.map_nil
def sI:=@List.map_set
def l6:=@List.map_take
def ay:=@List.mem_append
def cg:=@List.mem_append_left
def bP:=@List.mem_append_right
def ar:=@List.mem_cons
def bK:=@List.mem_cons_of_mem
def gS:=@List.mem_cons_self
def eA:=@List.mem_filter
def mZ:=@List.mem_flatMap
def zU:=@List.mem_iff_getElem
def GU:=@List.mem_iff_getElem?
def cr:=@List.mem_map
def j8:=@List.mem_map_of_mem
def aA:=@List.mem_of_getElem?
def qa:=@List.mem_of_mem_drop
def vy:=@List.mem_of_mem_tail
def gv:=@List.mem_of_mem_take
def vz:=@List.mem_or_eq_of_mem_set
def l7:=@List.mem_range
def az:=@List.mem_singleton
def cQ:=@List.nil_append
def gU:=@List.nodup_append
def gV:=@List.nodup_cons
def GV:=@List.nodup_iff_pairwise_ne
def qb:=@List.nodup_nil
def ij:=@List.not_mem_nil
def GW:=@List.not_of_lt_findIdx
def eB:=@List.pairwise_append
def eC:=@List.pairwise_cons
def vA:=@List.pairwise_iff_getElem
def vB:=@List.pairwise_map
def GX:=@List.pairwise_singleton
def GY:=@List.perm_iff_count
def GZ:=@List.range_succ
def zV:=@List.replicate_succ'
def G4:=@List.replicate_zero
def sJ:=@List.setIfInBounds_toArray
def vC:=@List.set_append_left
def qc:=@List.set_append_right
def kP:=@List.set_set
def vD:=@List.singleton_append
def j9:=@List.size_toArray
def zW:=@List.sum_append
def l8:=@List.sum_cons
def l9:=@List.tail_cons
def kQ:=@List.take_add_one
def m7:=@List.take_append_drop
def m8:=@List.take_append_of_le_length
def sK:=@List.take_left
def fX:=@List.take_length
def cm:=@List.take_of_length_le
def qe:=@List.take_succ_cons
def ik:=@List.take_succ_eq_append_getElem
def jA:=@List.take_zero
def zX:=@Nat.add_comm
def qf:=@Nat.add_sub_cancel
def ma:=@Nat.add_zero
def zY:=@Nat.eq_zero_or_pos
def G5:=@Nat.le_add_right
def G6:=@Nat.le_of_succ_le_succ
def ai:=@Nat.le_refl
def zZ:=@Nat.le_succ_of_le
def aq:=@Nat.le_trans
def sL:=@Nat.lt_irrefl
def vE:=@Nat.lt_of_lt_of_le
def fC:=@Nat.lt_or_ge
def qg:=@Nat.lt_succ_iff_lt_or_eq
def sM:=@Nat.min_eq_left
def G7:=@Nat.mod_eq_of_lt
def sN:=@Nat.mod_lt
def Ab:=@Nat.mod_two_eq_zero_or_one
def sO:=@Nat.mul_add
def G8:=@Nat.mul_assoc
def vF:=@Nat.mul_comm
def kR:=@Nat.mul_le_mul_left
def G9:=@Nat.mul_le_mul_right
def vG:=@Nat.mul_zero
def Ad:=@Nat.not_lt
def mc:=@Nat.not_lt_zero
def Ae:=@Nat.pow_le_pow_right
def Af:=@Nat.pow_succ
def fM:=@Nat.sub_self
def bq:=@Nat.zero_add
def aW:=@Nat.zero_le
def qh:=@Nat.zero_mul
def jB:=@Option.getD_some
def mf:=@Option.map_some
def jC:=@Prod.ext
def sP:=@UInt8.lt_iff_toNat_lt
def il:=@UInt8.toNat_ofNat'
open Go.ChangeShapes Go.WideShapes Go.ChangeAt Go.RowKit
variable{P:Program}{W W':YB}
theorem own:ownKnob prog.godebug=none:=by kernel_rfl
theorem laidOut:laidOutB prog=true:=by kernel_rfl
theorem Ej{H:Type}{enc:pm×YO->H}(hl:laidOutB P=true)(hb:Below W.heap.size W W'):
  ∀(ts:List pm) (vs:List YO) (ds:List (DataW H)) (ps:List MemPlace),ts.all (λt=>P.readableRec t && decide (t<P.types.size))=true->
   DataW.TrodAll enc P W 0 (λ_=>true) true ts vs ds ps->(∀x∈ps,x.block<W.heap.size)->
   DataW.TrodAll enc P W' 0 (λb=>decide (b<W.heap.size)) true ts vs ds ps:=by
 intro ts
 induction ts with
 |nil=>
  intro vs ds ps _ h _;obtain⟨rfl,rfl,rfl⟩:=trodAll_nil h;exact trodAll_mk0
 |cons t ts ih=>
  intro vs ds ps ht h ef;obtain⟨v,vs',d,ds',p,q,rfl,rfl,rfl,h1,h2⟩:=trodAll_cons h;simp only[List.all_cons,Bool.and_eq_true,decide_eq_true_eq]at ht;obtain⟨⟨hr,hs⟩,ht'⟩:=ht;refine trodAll_cons_mk (Below.trod hl hr hs h1 hb λx hx=>ef x (List.mem_append_left _ hx)) (ih _ _ _ (by simpa using ht') h2 λx hx=>ef x (List.mem_append_right _ hx))
theorem VY{H:Type}{enc:pm×YO->H}(hl:laidOutB P=true){f:Func}{s:ChangeSpec}{tb:pm}{args:Array YO}{ds gs:List (DataW H)}{before:List MemPlace}
 (hW:DataW.Whole enc P f.params.toList s.vars false W args.toList ds gs before)(hv:s.vars=[])
 (hp:f.params.toList.all (λt=>P.readableRec t && decide (t<P.types.size))=true)(hr:f.resultTypes= #[tb])(htb:P.underlying tb=some .bool)
 (hfn:s.fn H ds={results:=[.lit (.bool true)],args:=ds})(hb:Below W.heap.size W W'):
  s.post enc P f false true false false W args (.bool true) W':=by
 have hW':=hW;obtain⟨p,q,hA,hV,rfl,VZ,EK⟩:=hW;rw[hv]at hV;obtain⟨rfl,rfl⟩:=trodVars_none hV;refine⟨ds,[],_,[],p,[],hW',?_,?_,?_,hb.frame _,λh=>by cases h⟩
 .rw[List.append_nil,hfn,hr];exact trodAll_cons_mk (p':=[]) (shut_bool htb true) trodAll_mk0
 .rw[List.append_nil,hfn];exact Ej hl hb _ _ _ _ hp hA λx hx=>by simpa using hW'.lt x (List.mem_append_left _ hx)
 .rw[hv,List.append_nil,hfn];exact rfl
open Go.RowKit
variable{B o g:Nat}{p a:Addr}{v:YO}{t' t:pm}{cs':Array YO}{w w':YB}{P:Program}{cur cs l:List YO}
def aF(w:YB)(g:Nat)(t:pm)(cs:Array YO):Prop:= ∃lo hi,w.heap[g]?=some (WF cs t (lo,hi))/\(lo=hi\/cs.size<=lo)
structure ag(S:List Nat)(w w':YB):Prop where
 os:w'.os=w.os
 tape:w'.tape=w.tape
 output:w'.output=w.output
 size:w.heap.size<=w'.heap.size
 block:∀k,k<w.heap.size->k∉S->w'.heap[k]?=w.heap[k]?
section
variable{w w' Sn:YB}{g:Nat}{t:pm}{cs:Array YO}{S S':List Nat}
theorem ag.refl(S:List Nat)(w:YB):ag S w w:=⟨rfl,rfl,rfl,Nat.le_refl _,λ_ _ _=>rfl⟩
theorem ag.aU(h:ag S w w')(k:ag S' w' Sn)(hs:∀x∈S',x<w.heap.size->x∈S):ag S w Sn:=
 ⟨k.os.trans h.os,k.tape.trans h.tape,k.output.trans h.output,Nat.le_trans h.size k.size,λb hb hn=>
  (k.block b (Nat.lt_of_lt_of_le hb h.size) (λhm=>hn (hs b hm hb))).trans (h.block b hb hn)⟩
theorem ag.trans(h:ag S w w')(k:ag S w' Sn):ag S w Sn:=h.aU k λ_ hx _=>hx
theorem ag.mono(h:ag S w w')(hs:∀x∈S,x<w.heap.size->x∈S'):ag S' w w':=
 ⟨h.os,h.tape,h.output,h.size,λb hb hn=>h.block b hb λhm=>hn (hs b hm hb)⟩
theorem ag.aj(h:Below w.heap.size w w'):ag S w w':=⟨h.os,h.tape,h.output,h.size,λb hb _=>h.block b hb⟩
theorem ag.below(h:ag S w w')(hs:∀x∈S,w.heap.size<=x):Below w.heap.size w w':=
 ⟨h.os,h.tape,h.output,h.size,λb hb=>h.block b hb λhm=>by have:=hs b hm;omega⟩
theorem ag.aK(h:ag S w w')(hB:B<=w.heap.size)(hs:∀x∈S,B<=x):Below B w w':=
 ⟨h.os,h.tape,h.output,h.size,λb hb=>h.block b (by omega) λhm=>by have:=hs b hm;omega⟩
theorem ag.iw(h:ag [] w w'):Below w.heap.size w w':=h.below (by simp)
theorem ag.drew(h:ag S w w'):ag S w w'.drew:=⟨h.os,h.tape,h.output,h.size,h.block⟩
theorem ag.drewN(h:ag S w w')(n:Nat):ag S w (w'.drewN n):=⟨h.os,h.tape,h.output,h.size,h.block⟩
theorem ag.alloc(h:ag S w w')(o:Obj):ag S w (w'.alloc o):=
 h.trans ⟨rfl,rfl,rfl,by simp,λb hb _=>Below.heap_alloc _ _ _ hb⟩
theorem ag.setCell(h:ag S w w')(hp:p.block<w.heap.size->p.block∈S)(v:YO):ag S w (w'.setCell p v):=
 ⟨h.os,h.tape,h.output,Nat.le_trans h.size (by simp[World.setCell]),λb hb hn=>
  (Below.heap_setCell _ _ _ _ (λe=>hn (by subst e;exact hp hb))).trans (h.block b hb hn)⟩
theorem ag.grown{row:Option Nat}(h:ag S w w')(hg:w'.grownBy Sn row)(hr:∀k,row=some k->k<w.heap.size->k∈S):ag S w Sn:=
 ⟨hg.os.trans h.os,hg.tape.trans h.tape,hg.output.trans h.output,Nat.le_trans h.size hg.size,λb hb hn=>
  (hg.block b (Nat.lt_of_lt_of_le hb h.size) (λe=>hn (hr b e.symm hb))).trans (h.block b hb hn)⟩
theorem ag.cell(h:ag S w w')(hp:p.block<w.heap.size)(hn:p.block∉S):w'.cell? p=w.cell? p:=World.cell?_of_block (w:=w) (h.block p.block hp hn)
theorem ag.frozen(h:ag S w w')(hp:p.block<w.heap.size)(hn:p.block∉S):w'.frozen? p=w.frozen? p:=World.frozen?_of_block (w:=w) (h.block p.block hp hn)
theorem aF.of_eq(h:w.heap[g]?=some (WF cs t (0,0))):aF w g t cs:=⟨0,0,h,.inl rfl⟩
theorem aF.of_same(h:aF w g t cs)(e:w'.heap[g]?=w.heap[g]?):aF w' g t cs:=by
 obtain⟨lo,hi,h1,h2⟩:=h;exact⟨lo,hi,e.trans h1,h2⟩
theorem aF.lt(h:aF w g t cs):g<w.heap.size:=by
 obtain⟨lo,hi,h,_⟩:=h
 rcases Nat.lt_or_ge g w.heap.size with ef|MN
 .exact ef
 .rw[Array.getElem?_eq_none MN]at h;cases h
theorem aF.cell(h:aF w g t cs)(i:Nat):w.cell? ⟨g,i,none⟩=cs[i]?:=by
 obtain⟨lo,hi,h,_⟩:=h;exact cell_of_row w g i cs t (lo,hi) h
theorem aF.ab(h:aF w g t cs){i:Nat}(hv:cs[i]?=some v):w.cell? ⟨g,i,none⟩=some v:=(h.cell i).trans hv
theorem aF.frozen(h:aF w g t cs)(i:Nat)(hi:i<cs.size):w.frozen? ⟨g,i,none⟩=false:=by
 obtain⟨lo,qk,h,h2⟩:=h;simp only[World.frozen?,h]
 rcases h2 with rfl|h2
 .simp
 .simp;omega
theorem aF.new(w:YB)(t:pm)(cs:Array YO):aF (w.alloc (WF cs t)) w.heap.size t cs:= .of_eq (heap_alloc_new w _)
theorem aF.drew(h:aF w g t cs):aF w.drew g t cs:=h
theorem aF.drewN(h:aF w g t cs)(n:Nat):aF (w.drewN n) g t cs:=h
theorem aF.alloc(h:aF w g t cs)(o:Obj):aF (w.alloc o) g t cs:=h.of_same (Below.heap_alloc w o g h.lt)
theorem aF.cw(h:aF w g t cs)(i:Nat)(u:YO):aF (w.setCell ⟨g,i,none⟩ u) g t (cs.setIfInBounds i u):=by
 obtain⟨lo,hi,h,h2⟩:=h;exact⟨lo,hi,by simp[World.setCell,Array.getElem?_modify,h],by simpa using h2⟩
theorem aF.aY(h:aF w g t cs)(hp:g≠p.block)(u:YO):aF (w.setCell p u) g t cs:=h.of_same (Below.heap_setCell w p u g hp)
theorem aF.below(h:aF w g t cs)(hb:Below B w w')(hg:g<B):aF w' g t cs:=h.of_same (hb.block g hg)
theorem aF.only(h:aF w g t cs)(hb:ag S w w')(hg:g∉S):aF w' g t cs:=h.of_same (hb.block g h.lt hg)
theorem aF.inj(h:aF w g t cs)(h':aF w g t' cs'):t=t'/\cs=cs':=by
 obtain⟨lo,hi,h,_⟩:=h;obtain⟨lo',qk,h',_⟩:=h';rw[h]at h';injection h' with h'
 injection h' with e1 e2
 exact⟨e2,e1⟩
theorem aF.jJ{g':Nat}(h:aF w g t cs)(h':aF w g' t' cs')(fF:t≠t'):g≠g':=by
 rintro rfl;exact fF (h.inj h').1
end
theorem de(h:Below B w w')(n:Nat):Below B w (w'.drewN n):=⟨h.os,h.tape,h.output,h.size,h.block⟩
theorem bQ(s:rd):s.toList=s.data.toList:=ByteArray.toList_eq s
theorem uC(l:pu)(s:rd):(⟨l.toArray⟩++s:rd)=⟨(l++s.data.toList).toArray⟩:=by
 apply ByteArray.ext;rw[ByteArray.data_append];simp
theorem aC{a b:YB}(h:Below w.heap.size w a)(k:Below a.heap.size a b):Below w.heap.size w b:=h.trans (k.mono h.size)
theorem m9(a:Addr)(n:Nat):(a.add n).block=a.block:=by unfold Addr.add;split<;>rfl
theorem Np(a:Addr)(i j:Nat):(a.add i).add j=a.add (i+j):=by
 unfold Addr.add
 by_cases hi:i=0<;>by_cases hj:j=0<;>simp[hi,hj,Nat.add_assoc]
theorem cZ(h:w.cell? a=some v):a.block<w.heap.size:=by
 rcases Nat.lt_or_ge a.block w.heap.size with ef|MN
 .exact ef
 .simp[World.cell?,Array.getElem?_eq_none MN]at h
theorem QR{k:Nat}(h:w.cell? (a.add k)=some v):a.block<w.heap.size:=by
 rcases Nat.lt_or_ge a.block w.heap.size with ef|MN
 .exact ef
 .simp[World.cell?,m9,Array.getElem?_eq_none MN]at h
def bv(b:UInt8):YO:=U5 Nm (b.toNat:Int)
def dR(l:pu):List YO:=l.map bv
@[simp] theorem kk(l:pu):(dR l).length=l.length:=by simp[dR]
theorem dD(l m:pu):dR (l++m)=dR l++dR m:=by simp[dR]
theorem Ag(l:pu)(i:Nat):(dR l)[i]?=l[i]?.map bv:=by simp[dR]
theorem sQ(l:pu):∀v∈dR l,v.oneCell'=true:=by
 intro v hv;obtain⟨b,_,rfl⟩:=List.mem_map.1 hv;rfl
theorem foldl_push(l:pu):∀s:rd,(l.map λb=>(b.toNat:Int)).foldl (λr n=>r.push (gn n.toNat)) s=⟨(s.data.toList++l).toArray⟩:=by
 induction l with
 |nil=>intro s;cases s;simp
 |cons b l ih=>
  intro s;simp only[List.map_cons,List.foldl_cons];rw[ih]
  congr 1
  simp[ByteArray.push]
theorem cu(w:YB)(src dst e:pm)(hs:P.underlying src=some (.slice e))(he:P.underlying e=some (.int Nm))(hd:P.underlying dst=some .string)
 (a:Addr)(len cap:Nat)(l:pu)(hl:l.length=len)(hc:∀j v,(dR l)[j]?=some v->w.cell? (a.add j)=some v):
  (convert src dst (U3 (some a) len cap)).run P w=.ok (U2 ⟨l.toArray⟩) w:=by
 subst hl;rw[run_convert_bytes_string w src dst e (some a) l.length cap hs he hd];have h:=run_loadCells_list (P:=P) w a (dR l) hc;rw[kk]at h;have e2:dR l=(l.map λb=>(b.toNat:Int)).map (Value.int Nm):=by simp[dR,bv]
 rw[e2]at h;rw[run_bytesToString w a l.length cap _ h,foldl_push];simp
def putAt(cur:List YO)(o:Nat)(cs:List YO):List YO:=cur.take o++cs++cur.drop (o+cs.length)
theorem xu(cur:List YO)(o:Nat):putAt cur o []=cur:=by simp[putAt]
theorem kS(h:o+cs.length<=cur.length):(putAt cur o cs).length=cur.length:=by
 simp[putAt];omega
theorem iW(z:YO)(n:Nat):madeCells #[z] n=(fd n z).toArray:=by
 apply Array.ext
 .simp[size_madeCells]
 .intro i h1 h2;simp[madeCells,Nat.mod_one]
theorem Nq(h:o<cur.length):putAt (cur.set o v) (o+1) cs=putAt cur o (v::cs):=by
 unfold putAt;rw[List.length_cons,List.take_succ_eq_append_getElem (by simpa using h),List.take_set_of_le (Nat.le_refl _),List.getElem_set_self,List.drop_set_of_lt (by omega)];simp[Nat.add_assoc,Nat.add_comm 1]
theorem aF.setCells :∀(cs:List YO) {w:YB} {cur:List YO} (o:Nat),aF w g t cur.toArray->o+cs.length<=cur.length->aF (w.setCells g o cs) g t (putAt cur o cs).toArray
 |[],w,cur,o,h,_=>by rw[xu];exact h
 |v::cs,w,cur,o,h,hl=>by
  simp only[List.length_cons]at hl;have h1:=h.cw o v;rw[List.setIfInBounds_toArray]at h1;have h2:=aF.setCells cs (o+1) h1 (by rw[List.length_set];omega);rw[Nq (by omega)]at h2;exact h2
theorem ag.setCells{S:List Nat} :∀(cs:List YO) {w':YB} (o:Nat),ag S w w'->(g<w.heap.size->g∈S)->ag S w (w'.setCells g o cs)
 |[],_,_,h,_=>h
 |v::cs,_,o,h,hg=>ag.setCells cs (o+1) (h.setCell (p:=⟨g,o,none⟩) hg v) hg
theorem AO(B:aF w g t cur.toArray)(dT sT ty elem:pm)(o vH AQ:Nat)(a:Addr)(Nr sCap:Nat)(cs:List YO)
 (hu:P.underlying dT=some (.slice elem))(hs:(P.info? elem).map (·.size)=some 1)(hn:cs.length=Nat.min Nr vH)
 (V9:∀j v,cs[j]?=some v->w.cell? (a.add j)=some v)(tU:o+cs.length<=cur.length)(h1:∀v∈cs,v.oneCell'=true):
  ∃w',(Builtin.copy_ #[dT,sT] ty #[U3 (some ⟨g,o,none⟩) vH AQ,U3 (some a) Nr sCap]).run P w=.ok (goInt cs.length) w'/\aF w' g t (putAt cur o cs).toArray/\ag [g] w w':=
 ⟨_,run_copy_cells (P:=P) w dT sT ty elem g o vH AQ a Nr sCap cs hu hs hn V9 (λj hj=>by rw[B.cell];simp;omega) (λj hj=>B.frozen _ (by simp;omega)) h1,
  B.setCells cs o tU,(ag.refl _ _).setCells cs o (by simp)⟩
theorem oF(B:aF w g t cur.toArray)(dT sT ty elem:pm)(o vH AQ:Nat)(s:rd)(n:Nat)
 (hu:P.underlying dT=some (.slice elem))(hs:(P.info? elem).map (·.size)=some 1)(hn:n=Nat.min s.size vH)(tU:o+n<=cur.length):
  ∃w',(Builtin.copy_ #[dT,sT] ty #[U3 (some ⟨g,o,none⟩) vH AQ,U2 s]).run P w=.ok (goInt n) w'/\aF w' g t (putAt cur o (dR (s.data.toList.take n))).toArray/\ag [g] w w':=by
 have hl:(dR (s.data.toList.take n)).length=n:=by
  have:n<=s.size:=by rw[hn];exact Nat.min_le_left _ _
  simp;omega
 refine⟨w.setCells g o (dR (s.data.toList.take n)),?_,B.setCells _ o (by omega),(ag.refl _ _).setCells _ o (by simp)⟩;have tV:=run_storeCells_cells (P:=P) g o (dR (s.data.toList.take n)) 0 w (λj hj=>by rw[B.cell];simp;omega) (λj hj=>B.frozen _ (by simp;omega)) (sQ _);have e:List.take n (List.map (λb:UInt8=>Value.int Nm (b.toNat:Int)) s.data.toList)=dR (s.data.toList.take n):=by
  rw[dR,List.map_take];rfl
 cases hq:P.info? elem with
 |none=>simp[hq]at hs
 |some i=>
  simp only[Nat.add_zero]at tV;simp[Builtin.copy_,run_underlying hu,Builtin.lenOf,Builtin.firstCells,sizeOf,typeInfo,hq,<-hn];rw[e,tV];simp[Result.andThen]
theorem bm(B:aF w g t l.toArray)(o:Nat)(cs:List YO)(h:∀j v,cs[j]?=some v->l[o+j]?=some v):
  ∀j v,cs[j]?=some v->w.cell? ((⟨g,o,none⟩:Addr).add j)=some v:=by
 intro j v hv;have e:(⟨g,o,none⟩:Addr).add j=⟨g,o+j,none⟩:=by unfold Addr.add;split<;>simp_all
 rw[e,B.cell];simpa using h j v hv
def aM(w:YB)(e:pm)(size:Nat)(v:YO)(n:Nat)(l:List YO):Prop:=
 l.length=n*size/\((v=U3 none 0 0/\n=0)\/
  ∃g cap rest,v=U3 (some ⟨g,0,none⟩) n cap/\aF w g e (l++rest).toArray/\l.length+rest.length=cap*size/\cap<=it)
def ah:YO->List Nat
 |U3 (some a) _ _=>[a.block]
 |_=>[]
section
variable{w w':YB}{e:pm}{size:Nat}{v:YO}{n:Nat}{l:List YO}{S:List Nat}
theorem aM.nil(w:YB)(e:pm)(size:Nat):aM w e size (U3 none 0 0) 0 []:=⟨by simp,.inl ⟨rfl,rfl⟩⟩
theorem aM.only(h:aM w e size v n l)(ho:ag S w w')(hd:∀g∈ah v,g∉S):aM w' e size v n l:=by
 refine⟨h.1,h.2.imp id ?_⟩;rintro⟨g,cap,rest,rfl,B,hc,hm⟩;exact⟨g,cap,rest,rfl,B.only ho (hd g (by simp[ah])),hc,hm⟩
theorem aM.below(h:aM w e size v n l)(hb:Below w.heap.size w w'):aM w' e size v n l:=h.only (S:=[]) (.aj hb) (by simp)
theorem aM.drew(h:aM w e size v n l):aM w.drew e size v n l:=h
theorem aM.alloc(h:aM w e size v n l)(o:Obj):aM (w.alloc o) e size v n l:=h.only (S:=[]) ((ag.refl _ _).alloc o) (by simp)
theorem aM.lt(h:aM w e size v n l):∀g∈ah v,g<w.heap.size:=by
 rcases h.2 with⟨rfl,_⟩|⟨g,cap,rest,rfl,B,_⟩
 .simp[ah]
 .intro x hx;simp[ah]at hx;subst hx;exact B.lt
theorem aM.AR{base:Nat}(h:w.ownsRow base e size v n l):aM w e size v n l:=by
 refine⟨h.1,h.2.imp id ?_⟩;rintro⟨g,cap,cur,rfl,_,hh,Ha,hm,hs,ht⟩;have oq:cur.toList.length=cap*size:=by simpa using hs
 refine⟨g,cap,cur.toList.drop (n*size),rfl,?_,?_,hm⟩
 .rw[<-ht,List.take_append_drop];exact .of_eq hh
 .rw[h.1,List.length_drop,oq];have:n*size<=cap*size:=Nat.mul_le_mul_right _ Ha;omega
theorem aM.form(h:aM w e size v n l)(hn:0<n)(hs:0<size):∃g cap rest,v=U3 (some ⟨g,0,none⟩) n cap/\aF w g e (l++rest).toArray/\n<=cap/\l.length+rest.length=cap*size:=by
 rcases h.2 with⟨_,h0⟩|⟨g,cap,rest,rfl,B,hc,_⟩
 .omega
 .refine⟨g,cap,rest,rfl,B,?_,hc⟩;have h1:=h.1;have:n*size<=cap*size:=by omega
  exact Nat.le_of_mul_le_mul_right this hs
theorem aM.uD{n' cap:Nat}(h:aM w e size (U3 (some ⟨g,0,none⟩) n' cap) n l):∃rest,aF w g e (l++rest).toArray/\l.length+rest.length=cap*size/\n'=n/\cap<=it:=by
 rcases h.2 with⟨h0,_⟩|⟨g',Hb,rest,hv,B,hc,hm⟩
 .simp at h0
 .simp only[Value.slice.injEq,Option.some.injEq,Addr.mk.injEq,and_true]at hv;obtain⟨rfl,rfl,rfl⟩:=hv;exact⟨rest,B,hc,rfl,hm⟩
end
theorem dE{e:pm}{size:Nat}{n:Nat}(h:aM w e size v n l)
 (t ty:pm)(i:TypeInfo)(z:YO)(bytes:Nat)(ht:P.underlying t=some (.slice e))(hi:P.info? e=some i)(hz:i.zero=some z)
 (AS:i.size=size)(hby:i.bytes=bytes)(hzs:z.cells.size=size)(oq:0<size)
 (a:Addr)(m c:Nat)(news:List YO)(hl:news.length=m*size)(EL:∀j u,news[j]?=some u->w.cell? (a.add j)=some u)(h1:∀u∈news,u.oneCell'=true)
 (Hc:n+m<=it)(Ns:(n+m)*bytes<=140737488355328):
  ∃v' w',(Builtin.append_ #[t,t] ty #[v,U3 (some a) m c]).run P w=.ok v' w'/\aM w' e size v' (n+m) (l++news)/\ag (ah v) w w'/\(∀g∈ah v',g∈ah v\/w.heap.size<=g):=by
 rcases h.2 with⟨rfl,rfl⟩|⟨g,cap,rest,rfl,B,hc,hm⟩
 .have zG:l=[]:=List.eq_nil_of_length_eq_zero (by simpa using h.1);subst zG;obtain⟨v',w',hr,h2,h3,_⟩:=run_append_own (P:=P) w w.heap.size t ty e i z size bytes ht hi hz AS hby hzs oq (U3 none 0 0) 0 [] (World.ownsRow_nil _ _ _ _) a m c news hl EL h1 Hc Ns (Nat.le_refl _);refine⟨v',w',hr,.AR h2,(ag.refl _ _).grown h3 (by simp[Value.ownBlock]),?_⟩;intro g hg
  rcases h2.2 with⟨rfl,_⟩|⟨g',cap,cur,rfl,hb,_⟩
  .simp[ah]at hg
  .simp[ah]at hg;subst hg;exact .inr hb
 .by_cases hr:n+m<=cap
  .subst AS;have hmul:(n+m)*i.size<=cap*i.size:=Nat.mul_le_mul_right _ hr;rw[Nat.add_mul]at hmul;have hh:=h.1;have AU:=run_append_room_cells (P:=P) w t ty e i ht hi g 0 n cap a m c news hl EL h1 hr (λj hj=>by rw[B.cell];simp;omega) (λj hj=>B.frozen _ (by simp;omega));refine⟨_,_,AU,⟨by simp[hh,hl,Nat.add_mul],.inr ⟨g,cap,rest.drop news.length,rfl,?_,by simp;omega,hm⟩⟩,(ag.refl _ _).setCells news _ (by simp[ah]),by simp[ah]⟩
   have B2:=B.setCells news (0+n*i.size) (by simp;omega);have e2:putAt (l++rest) (0+n*i.size) news=l++news++rest.drop news.length:=by
    unfold putAt;rw[Nat.zero_add,<-hh,List.take_left,<-List.drop_drop,List.drop_left]
   rwa [e2]at B2
  .obtain⟨v',w',AU,h2,h3⟩:=run_append_arg_grows (P:=P) w t ty e i z size bytes ht hi hz AS hby hzs oq ⟨g,0,none⟩ n cap l h.1 (bm B 0 l (by intro j u hu;rw[Nat.zero_add];exact List.getElem?_append_left (List.getElem?_eq_some_iff.1 hu).1▸hu)) a m c news hl EL (by omega) Hc Ns;refine⟨v',w',AU,.AR h2,(ag.refl _ _).grown h3 (by simp),?_⟩;intro g' hg
   rcases h2.2 with⟨rfl,_⟩|⟨g'',Hb,cur,rfl,hb,_⟩
   .simp[ah]at hg
   .simp[ah]at hg;subst hg;exact .inr hb
theorem wpList_append_run{ops:Array Oper}{rest:List Oper}{o:Oper}{a:Act}{Q:Exit->Act->YB->Prop}(hgd:o.guard=none)(s x:Operand)(t:pm)
 (ho:o.op= .call {callee:= .builtin .append,args:= #[s,x],argTypes:= #[t,t]})(v xv:YO)(hs:a.eval s=v)(hx:a.eval x=xv){v':YO} 
 (AU:(Builtin.append_ #[t,t] o.type #[v,xv]).run P w=.ok v' w')(h:wpList P ops Q rest (a.put o.dst v') w'):wpList P ops Q (o::rest) a w:=by
 refine wpList_plain hgd λK hK=>?_;unfold Oper.wp;simp[execOp,ho,resolve,invoke,builtin,hs,hx,AU,Result.andThen];exact hK _ _ h
theorem zH(w:YB)(src dst e:pm)(s:rd)(hs:P.underlying src=some .string)(hd:P.underlying dst=some (.slice e))(he:P.underlying e=some (.int Nm))(hm:s.size<=it):
  ∃cap w',(convert src dst (U2 s)).run P w=.ok (U3 (some ⟨w.heap.size,0,none⟩) s.size cap) w'/\aM w' e 1 (U3 (some ⟨w.heap.size,0,none⟩) s.size cap) s.size (dR s.data.toList)/\Below w.heap.size w w':=by
 refine⟨_,_,run_bytes_of_string (P:=P) w src dst e s hs hd he,⟨by simp,.inr ⟨w.heap.size,_,fd (grownCap w s.size 0 e-s.size) (U5 Nm 0),rfl,?_,?_,grownCap_le_maxLen _ _ _ _ hm⟩⟩,?_⟩
 .have e1:bytesRow s (grownCap w s.size 0 e)=(dR s.data.toList++fd (grownCap w s.size 0 e-s.size) (Value.int Nm 0)).toArray:=by
   apply Array.toList_inj.1;simp[bytesRow,dR];exact λ_ _=>rfl
  rw[e1];exact⟨_,_,heap_alloc_new w.drew _,.inr (Nat.le_refl _)⟩
 .have:=grownCap_ge w s.size 0 e;simp;omega
 .exact⟨rfl,rfl,rfl,by simp,λk hk=>Below.heap_alloc w.drew _ k hk⟩
variable{w:YB}{e:pm}{v:YO}{n:Nat}{l:List YO}
noncomputable def dF(P:Program)(T ty:pm)(w:YB)(s x:YO):Result YO:=(Builtin.append_ #[T,T] ty #[s,x]).run P w
theorem bA(P:Program)(ρ:Operand->YO)(dst:Option Tmp)(s x:Operand)(T t:pm)(p:String)(af:Array Edge)(g:Option (Nat×Bool))(w:YB):
  (execOp ρ {dst:=dst,op:= .call {callee:= .builtin .append,args:= #[s,x],argTypes:= #[T,T]},type:=t,pos:=p,after:=af,guard:=g}).run P w=(dF P T t w (ρ s) (ρ x)).andThen λv w'=> .ok (.value v) w':=by
 simp[execOp,resolve,invoke,builtin,dF]
theorem dG{P:Program}(S:aM w e 1 v n l)
 (T ty:pm)(z:YO)(bytes:Nat)(ht:P.underlying T=some (.slice e))(nN:(P.info? e).map (λi=>(i.zero,i.size,i.bytes))=some (some z,1,bytes))(hz:z.cells.size=1)
 (x:YO)(hx:x.oneCell'=true)(Hc:n+1<=it)(hb:(n+1)*bytes<=140737488355328):
  ∃v' w',dF P T ty (w.alloc (WF #[x] e)) v (U3 (some ⟨w.heap.size,0,none⟩) 1 1)= .ok v' w'/\aM w' e 1 v' (n+1) (l++[x])/\ag (ah v) w w'/\(∀g∈ah v',g∈ah v\/w.heap.size<=g):=by
 obtain⟨i0,hi,lz,jK,kl⟩:=info_parts nN;obtain⟨v',w',h1,h2,h3,h4⟩:=dE (P:=P) (S.alloc (WF #[x] e)) T ty i0 z bytes ht hi lz jK kl hz (by omega)
  ⟨w.heap.size,0,none⟩ 1 1 [x] rfl (bm (l:=[x]) (aF.new w e #[x]) 0 _ (by simp)) (by intro u hu;simp at hu;subst hu;exact hx) Hc hb
 exact⟨v',w',h1,h2,((ag.refl _ _).alloc _).aU h3 (λx hx _=>hx),λg hg=>(h4 g hg).imp id (λh=>by simp at h;omega)⟩
theorem ax{size:Nat}(S:aM w e size v n l):∃A c,v=U3 A n c:=by
 rcases S.2 with⟨rfl,rfl⟩|⟨g,cap,rest,rfl,_⟩
 .exact⟨none,0,rfl⟩
 .exact⟨_,cap,rfl⟩
variable{P:Program}{i fuel d n:Nat}{v:YO}{w:YB}{e:pm}
theorem pa{α:Type}(l:List α)(i:Nat)(a:α):l.toArray.setIfInBounds i a=(l.set i a).toArray:=by simp
theorem pb{α:Type}(a b:α)(l:List α):(a::l).set 0 b=b::l:=rfl
theorem pc{α:Type}(a b:α)(l:List α)(n:Nat):(a::l).set (n+1) b=a::l.set n b:=rfl
theorem tkf{ops:Array Oper}{Q:Exit->Act->YB->Prop}{md:Region.Mode}{S:YB->Prop}{oi:Oper}{bX:Array Bool}{a:Act}(hi:ops[i]?=some oi)
 (hb:(Region.noSelect ops && (Region.free md ops bX i && ((Region.ready md ops bX).contains i && Region.wanted oi (yielded ops a.tmps))))=true)
 (hQ:∀c a w,Q (.panic c) (a.put oi.dst v) w->Q (.panic c) a w)(hS:S w)(y:∀w,S w->(execOp a.eval oi).run P w=.ok (.value v) w)
 (h:wpAnyH P md ops Q S fuel (bX.setIfInBounds i true) (a.put oi.dst v) w):wpAnyH P md ops Q S (fuel+1) bX a w:=by
 simp only[Bool.and_eq_true]at hb;exact wpAnyH_take hi hb.1 hb.2.1 hb.2.2.1 hQ (Or.inl ⟨hb.2.2.2,y⟩) hS h
def Vu(_:List (Nat×Nat))(g:Prop):Prop:=g
theorem dP(l:List (Nat×Nat)){g:Prop}(h:Vu l g):g:=h
theorem zpe{g:Prop}(h:g):Vu [] g:=h
theorem ztp{ops:Array Oper}{Q:Exit->Act->YB->Prop}{md:Region.Mode}{S:YB->Prop}{l:List (Nat×Nat)}{x1 x2 x3 x4 x5}{bX:Array Bool}{a:Act}(hi:ops[i]?=some ⟨some d,x1,x2,x3,x4,x5⟩)
 (hb:(Region.noSelect ops && (Region.free md ops bX i && ((Region.ready md ops bX).contains i && Region.wanted ⟨some d,x1,x2,x3,x4,x5⟩ (yielded ops a.tmps))))=true)
 (hQ:∀c a w,Q (.panic c) (a.put (some d) v) w->Q (.panic c) a w)(hS:S w)(y:∀w,S w->(execOp a.eval ⟨some d,x1,x2,x3,x4,x5⟩).run P w=.ok (.value v) w)
 (h:Vu l (wpAnyH P md ops Q S fuel (bX.setIfInBounds i true) (a.put (some d) v) w)):Vu ((i,d)::l) (wpAnyH P md ops Q S (fuel+1) bX a w):=tkf hi hb hQ hS y h
theorem tks{ops:Array Oper}{Q:Exit->Act->YB->Prop}{md:Region.Mode}{S:YB->Prop}{oi:Oper}{bX:Array Bool}{a:Act}(hi:ops[i]?=some oi)
 (hb:(Region.noSelect ops && (Region.free md ops bX i && ((Region.ready md ops bX).contains i && !(Region.wanted oi (yielded ops a.tmps)))))=true)
 (hQ:∀c a w,Q (.panic c) (a.put oi.dst undef) w->Q (.panic c) a w)(hS:S w)
 (h:wpAnyH P md ops Q S fuel (bX.setIfInBounds i true) (a.put oi.dst undef) w):wpAnyH P md ops Q S (fuel+1) bX a w:=by
 simp only[Bool.and_eq_true,Bool.not_eq_true']at hb;exact wpAnyH_take hi hb.1 hb.2.1 hb.2.2.1 hQ (Or.inr ⟨hb.2.2.2,rfl⟩) hS h
theorem Wa{α:Type}(l:List α)(i:Nat)(a:α):l.toArray.setIfInBounds i a=(l.set i a).toArray:=pa l i a
theorem Wb{α:Type}(a b:α)(l:List α):(a::l).set 0 b=b::l:=rfl
theorem Wc{α:Type}(a b:α)(l:List α)(n:Nat):(a::l).set (n+1) b=a::l.set n b:=rfl
theorem bJ{ops:Array Oper}{Q:Exit->Act->YB->Prop}{md:Region.Mode}{S:YB->Prop}{l:List (Nat×Nat)}{x1 x2 x3 x4 x5}{bX:Array Bool}{a a':Act} 
 (h:Vu l (wpAnyH P md ops Q S fuel (bX.setIfInBounds i true) a' w))(hi:ops[i]?=some ⟨some d,x1,x2,x3,x4,x5⟩:=by rfl)
 (hb:(Region.noSelect ops && (Region.free md ops bX i && ((Region.ready md ops bX).contains i && Region.wanted ⟨some d,x1,x2,x3,x4,x5⟩ (yielded ops a.tmps))))=true:=by kernel_rfl)
 (hQ:∀c a w,Q (.panic c) (a.put (some d) v) w->Q (.panic c) a w:=by exact λ_ _ _ h=>h)(hS:S w:=by assumption)
 (y:∀w,S w->(execOp a.eval ⟨some d,x1,x2,x3,x4,x5⟩).run P w=.ok (.value v) w:=by intro w hS;(try dsimp only at hS);go_simp;try with_reducible rfl)
 (ha:a.put (some d) v=a':=by simp only[Act.put,Wa,Wb,Wc];exact rfl):Vu ((i,d)::l) (wpAnyH P md ops Q S (fuel+1) bX a w):=ztp hi hb hQ hS y (ha▸h)
theorem km{ops:Array Oper}{Q:Exit->Act->YB->Prop}{md:Region.Mode}{S:YB->Prop}(i d:Nat){x1 x2 x3 x4 x5}{bX:Array Bool}{a a':Act} 
 (hQ:∀c a w,Q (.panic c) (a.put (some d) v) w->Q (.panic c) a w)(h:wpAnyH P md ops Q S fuel (bX.setIfInBounds i true) a' w)(hi:ops[i]?=some ⟨some d,x1,x2,x3,x4,x5⟩:=by rfl)
 (hb:(Region.noSelect ops && (Region.free md ops bX i && ((Region.ready md ops bX).contains i && Region.wanted ⟨some d,x1,x2,x3,x4,x5⟩ (yielded ops a.tmps))))=true:=by kernel_rfl)
 (hS:S w:=by assumption)(y:∀w,S w->(execOp a.eval ⟨some d,x1,x2,x3,x4,x5⟩).run P w=.ok (.value v) w:=by intro w hS;(try dsimp only at hS);go_simp;try with_reducible rfl)
 (ha:a.put (some d) v=a':=by simp only[Act.put,Wa,Wb,Wc];exact rfl):wpAnyH P md ops Q S (fuel+1) bX a w:=tkf hi hb hQ hS y (ha▸h)
theorem cL{ops:Array Oper}{Q:Exit->Act->YB->Prop}{md:Region.Mode}{S:YB->Prop}(i d:Nat){x1 x2 x3 x4 x5}{bX:Array Bool}{a a':Act} 
 (h:wpAnyH P md ops Q S fuel (bX.setIfInBounds i true) a' w)(hi:ops[i]?=some ⟨some d,x1,x2,x3,x4,x5⟩:=by rfl)
 (hb:(Region.noSelect ops && (Region.free md ops bX i && ((Region.ready md ops bX).contains i && !(Region.wanted ⟨some d,x1,x2,x3,x4,x5⟩ (yielded ops a.tmps)))))=true:=by kernel_rfl)
 (hQ:∀c a w,Q (.panic c) (a.put (some d) undef) w->Q (.panic c) a w:=by exact λ_ _ _ h=>h)(hS:S w:=by assumption)
 (ha:a.put (some d) undef=a':=by simp only[Act.put,Wa,Wb,Wc];exact rfl):wpAnyH P md ops Q S (fuel+1) bX a w:=tks hi hb hQ hS (ha▸h)
theorem dI{ops:Array Oper}{Q:Exit->Act->YB->Prop}{md:Region.Mode}{S:YB->Prop}{bX:Array Bool}{a:Act}(i d:Nat){x1 x2 x3 x4 x5}
 (h:∀K':Act->YB->Prop,Shut (∀a w,S w->(S w->wpAnyH P md ops Q S fuel (bX.setIfInBounds i true) a w)->K' a w)->if Region.wanted ⟨some d,x1,x2,x3,x4,x5⟩ (yielded ops a.tmps)=true then Oper.wp P ⟨some d,x1,x2,x3,x4,x5⟩ a w K' Q else K' (a.put (some d) undef) w)
 (hr:Region.ready md ops bX=[i]:=by kernel_rfl)(ho:ops[i]?=some ⟨some d,x1,x2,x3,x4,x5⟩:=by rfl):wpAnyH P md ops Q S (fuel+1) bX a w:=wpAnyH_ready hr (by simp) (AllReadyH.cons ho h AllReadyH.nil)
theorem rm{ops:Array Oper}{Q:Exit->Act->YB->Prop}{md:Region.Mode}{S:YB->Prop}{bX:Array Bool}{a:Act}(i:Nat){x1 x2 x3 x4 x5}
 (h:∀K':Act->YB->Prop,Shut (∀a w,S w->(S w->wpAnyH P md ops Q S fuel (bX.setIfInBounds i true) a w)->K' a w)->if Region.wanted ⟨none,x1,x2,x3,x4,x5⟩ (yielded ops a.tmps)=true then Oper.wp P ⟨none,x1,x2,x3,x4,x5⟩ a w K' Q else K' (a.put none undef) w)
 (hr:Region.ready md ops bX=[i]:=by kernel_rfl)(ho:ops[i]?=some ⟨none,x1,x2,x3,x4,x5⟩:=by rfl):wpAnyH P md ops Q S (fuel+1) bX a w:=wpAnyH_ready hr (by simp) (AllReadyH.cons ho h AllReadyH.nil)
theorem rn{ops:Array Oper}{Q:Exit->Act->YB->Prop}{md:Region.Mode}{S:YB->Prop}(i d:Nat){x1 x2 x3 x4 x5}(v:YO){bX:Array Bool}{a a':Act} 
 (y:∀w,S w->(execOp a.eval ⟨some d,x1,x2,x3,x4,x5⟩).run P w=.ok (.value v) w)(h:wpAnyH P md ops Q S fuel (bX.setIfInBounds i true) a' w)(hi:ops[i]?=some ⟨some d,x1,x2,x3,x4,x5⟩:=by rfl)
 (hb:(Region.noSelect ops && (Region.free md ops bX i && ((Region.ready md ops bX).contains i && Region.wanted ⟨some d,x1,x2,x3,x4,x5⟩ (yielded ops a.tmps))))=true:=by kernel_rfl)
 (hQ:∀c a w,Q (.panic c) (a.put (some d) v) w->Q (.panic c) a w:=by exact λ_ _ _ h=>h)(hS:S w:=by assumption)
 (ha:a.put (some d) v=a':=by simp only[Act.put,Wa,Wb,Wc];exact rfl):wpAnyH P md ops Q S (fuel+1) bX a w:=tkf hi hb hQ hS y (ha▸h)
theorem bn{S:YB->Prop}{W K':Act->YB->Prop}{a a':Act}(hK:Shut (∀a w,S w->(S w->W a w)->K' a w))(hS:S w)(h:S w->W a' w)(ha:a=a':=by(try simp only[Act.put,Wa,Wb,Wc]);exact rfl):K' a w:=Shut.o hK _ _ hS (ha▸h)
theorem aI{p q:Prop}(h:q)(e:p:=by first|rfl|simp):p/\q:=⟨e,h⟩
theorem oG{size:Nat}{x:YO}{m:Nat}{l lx:List YO}(h:aM w e size v n l)(hx:aM w e size x m lx)
 (T ty:pm)(z:YO)(bytes:Nat)(ht:P.underlying T=some (.slice e))(nN:(P.info? e).map (λi=>(i.zero,i.size,i.bytes))=some (some z,size,bytes))(hz:z.cells.size=size)(hs:0<size)
 (h1:∀u∈lx,u.oneCell'=true)(Hc:n+m<=it)(hb:(n+m)*bytes<=140737488355328):
  ∃v' w',dF P T ty w v x=.ok v' w'/\aM w' e size v' (n+m) (l++lx)/\ag (ah v) w w'/\(∀g∈ah v',g∈ah v\/w.heap.size<=g):=by
 obtain⟨i0,hi,lz,jK,kl⟩:=info_parts nN;have EM:=hx.1
 rcases hx.2 with⟨rfl,rfl⟩|⟨g,cap,rest,rfl,B,hc,hm⟩
 .have zG:lx=[]:=List.eq_nil_of_length_eq_zero (by simpa using EM);subst zG;refine⟨v,w,?_,by simpa using h,ag.refl _ _,λx hx=> .inl hx⟩;unfold dF
  rcases h.2 with⟨rfl,h0⟩|⟨g,cap,rest,rfl,BB,hc,hm⟩
  .simp[Builtin.append_,run_underlying ht,sizeOf,typeInfo,hi,Builtin.lenOf,Builtin.firstCells]
  .have hl:=h.1;have Ha:n<=cap:=by
    have:n*size<=cap*size:=by omega
    exact Nat.le_of_mul_le_mul_right this hs
   simp[Builtin.append_,run_underlying ht,sizeOf,typeInfo,hi,Builtin.lenOf,Builtin.firstCells,Ha,storeCells]
 .obtain⟨v',w',e1,h2,h3,h4⟩:=dE (P:=P) h T ty i0 z bytes ht hi lz jK kl hz hs ⟨g,0,none⟩ m cap lx EM (bm B 0 lx (by intro j u hu;rw[Nat.zero_add];exact List.getElem?_append_left (List.getElem?_eq_some_iff.1 hu).1▸hu)) h1 Hc hb;exact⟨v',w',e1,h2,h3,h4⟩
theorem slc_lit(w:YB)(e:pm)(l:List YO)(h:l.length<=it):aM (w.alloc (WF l.toArray e)) e 1 (U3 (some ⟨w.heap.size,0,none⟩) l.length l.length) l.length l:=
 ⟨by simp,.inr ⟨w.heap.size,l.length,[],rfl,by rw[List.append_nil];exact aF.new w e l.toArray,by simp,h⟩⟩
theorem exl'(u:rd)(a b:Nat):(u.extract a b).data.toList=(u.data.toList.drop a).take (b-a):=by
 rw[ByteArray.data_extract,Array.toList_extract,List.extract_eq_take_drop]
theorem AV{f:FuncId}{args:Array YO}(h:eq P f args (w.drewN n) λe w'=>e=BY v/\w.drewN n=w'):eq P f args (w.drewN n) λe Sn=>e=BY v/\∃m,Sn=w.drewN m:=h.mono λ_ _ ⟨he,hm⟩=>⟨he,n,hm.symm⟩
theorem Hd{l:pu}(S:aM w e 1 v n (dR l))(src dst:pm)(hs:P.underlying src=some (.slice e))(he:P.underlying e=some (.int Nm))(hd:P.underlying dst=some .string):
  (convert src dst v).run P w=.ok (U2 ⟨l.toArray⟩) w:=by
 have hl:=S.1
 rcases S.2 with⟨rfl,rfl⟩|⟨g,cap,rest,rfl,B,hc,_⟩
 .have zG:l=[]:=List.eq_nil_of_length_eq_zero (by simpa using hl);subst zG;rw[run_convert_bytes_string w src dst e none 0 0 hs he hd];rfl
 .exact cu (P:=P) w src dst e hs he hd ⟨g,0,none⟩ n cap l (by simpa using hl) (bm B 0 _ (by intro j u hu;rw[Nat.zero_add];exact List.getElem?_append_left (List.getElem?_eq_some_iff.1 hu).1▸hu))
variable{P:Program}{w:YB}{e:pm}{v:YO}{n:Nat}{l:List YO}
def cE:YO->List Nat
 |U3 (some a) _ c=>if c=0 then []else [a.block]
 |_=>[]
def Sl(w:YB)(e:pm)(v:YO)(n:Nat)(l:List YO):Prop:=
 l.length=n/\((∃A,v=U3 A 0 0/\n=0)\/
  ∃g cap rest,v=U3 (some ⟨g,0,none⟩) n cap/\0<cap/\aF w g e (l++rest).toArray/\l.length+rest.length=cap/\cap<=it)
section
variable{w w':YB}{e:pm}{v:YO}{n:Nat}{l:List YO}{S:List Nat}
theorem Sl.nil(w:YB)(e:pm):Sl w e (U3 none 0 0) 0 []:=⟨rfl,.inl ⟨none,rfl,rfl⟩⟩
theorem Sl.xw(h:aM w e 1 v n l):Sl w e v n l:=by
 have hl:=h.1;refine⟨by omega,?_⟩
 rcases h.2 with⟨rfl,rfl⟩|⟨g,cap,rest,rfl,B,hc,hm⟩
 .exact .inl ⟨none,rfl,rfl⟩
 .by_cases h0:cap=0
  .subst h0;have:n=0:=by omega
   subst this;exact .inl ⟨_,rfl,rfl⟩
  .exact .inr ⟨g,cap,rest,rfl,by omega,B,by omega,hm⟩
theorem Sl.only(h:Sl w e v n l)(ho:ag S w w')(hd:∀g∈cE v,g∉S):Sl w' e v n l:=by
 refine⟨h.1,h.2.imp id ?_⟩;rintro⟨g,cap,rest,rfl,h0,B,hc,hm⟩;exact⟨g,cap,rest,rfl,h0,B.only ho (hd g (by simp[cE];omega)),hc,hm⟩
theorem Sl.below(h:Sl w e v n l)(hb:Below w.heap.size w w'):Sl w' e v n l:=h.only (S:=[]) (.aj hb) (by simp)
theorem Sl.drew(h:Sl w e v n l):Sl w.drew e v n l:=h
theorem Sl.alloc(h:Sl w e v n l)(o:Obj):Sl (w.alloc o) e v n l:=h.only (S:=[]) ((ag.refl _ _).alloc o) (by simp)
theorem Sl.lt(h:Sl w e v n l):∀g∈cE v,g<w.heap.size:=by
 rcases h.2 with⟨A,rfl,_⟩|⟨g,cap,rest,rfl,h0,B,_⟩
 .cases A<;>simp[cE]
 .intro x hx;simp[cE]at hx;rw[hx.2];exact B.lt
theorem Sl.val(h:Sl w e v n l):∃A c,v=U3 A n c/\n<=c:=by
 rcases h.2 with⟨A,rfl,rfl⟩|⟨g,cap,rest,rfl,_,_,hc,_⟩
 .exact⟨A,0,rfl,Nat.le_refl _⟩
 .exact⟨_,cap,rfl,by have:=h.1;omega⟩
theorem Sl.form(h:Sl w e v n l)(hn:0<n):∃g cap rest,v=U3 (some ⟨g,0,none⟩) n cap/\aF w g e (l++rest).toArray/\n<=cap/\l.length+rest.length=cap:=by
 rcases h.2 with⟨_,_,h0⟩|⟨g,cap,rest,rfl,_,B,hc,_⟩
 .omega
 .exact⟨g,cap,rest,rfl,B,by have:=h.1;omega,hc⟩
theorem Sl.cw(h:Sl w e v n l)(k:Nat)(hk:k<n)(u:YO):∃g c,v=U3 (some ⟨g,0,none⟩) n c/\Sl (w.setCell ⟨g,k,none⟩ u) e v n (l.set k u)/\cE v=[g]/\w.frozen? ⟨g,k,none⟩=false/\ag [g] w (w.setCell ⟨g,k,none⟩ u):=by
 rcases h.2 with⟨A,rfl,h0⟩|⟨g,cap,rest,rfl,h0,B,hc,hm⟩
 .omega
 .have hl:=h.1;refine⟨g,cap,rfl,⟨by rw[List.length_set];exact hl,.inr ⟨g,cap,rest,rfl,h0,?_,by rw[List.length_set];exact hc,hm⟩⟩,by simp[cE];omega,B.frozen k (by simp;omega),(ag.refl _ _).setCell (by simp) _⟩;have B2:=B.cw k u;rw[List.setIfInBounds_toArray,List.set_append_left _ _ (by omega)]at B2;exact B2
theorem Sl.cut(h:Sl w e v n l){A:Option Addr}{c:Nat}(hv:v=U3 A n c)(k:Nat)(hk:k<=n):Sl w e (U3 A k c) k (l.take k):=by
 have hl:=h.1;refine⟨by rw[List.length_take];omega,?_⟩
 rcases h.2 with⟨A',h1,h0⟩|⟨g,cap,rest,h1,h0,B,hc,hm⟩
 .rw[hv]at h1;injection h1 with h1 h2 h3
  subst h3;exact .inl ⟨A,by rw[show k=0 by omega],by omega⟩
 .rw[hv]at h1;injection h1 with h1 h2 h3
  subst h1 h3;exact .inr ⟨g,c,l.drop k++rest,rfl,h0,by rw[<-List.append_assoc,List.take_append_drop];exact B,by rw[List.length_take,List.length_append,List.length_drop];omega,hm⟩
end
theorem EP(h:Sl w e v n l)
 (T ty:pm)(z:YO)(bytes:Nat)(ht:P.underlying T=some (.slice e))(nN:(P.info? e).map (λi=>(i.zero,i.size,i.bytes))=some (some z,1,bytes))(hz:z.cells.size=1)
 (x:Option Addr)(m c:Nat)(news:List YO)(hl:news.length=m)(EL:∀j u,news[j]?=some u->∃a,x=some a/\w.cell? (a.add j)=some u)(h1:∀u∈news,u.oneCell'=true)
 (Hc:n+m<=it)(hb:(n+m)*bytes<=140737488355328):
  ∃v' w',dF P T ty w v (U3 x m c)= .ok v' w'/\Sl w' e v' (n+m) (l++news)/\ag (cE v) w w'/\(∀g∈cE v',g∈cE v\/w.heap.size<=g):=by
 obtain⟨i0,hi,lz,jK,kl⟩:=info_parts nN;have qQ:=h.1
 by_cases hm0:m=0
 .subst hm0;have zG:news=[]:=List.eq_nil_of_length_eq_zero hl;subst zG;refine⟨v,w,?_,by simpa using h,ag.refl _ _,λx hx=> .inl hx⟩;unfold dF;obtain⟨A,cc,rfl,Ha⟩:=h.val
  cases x with
  |none=>cases A<;>simp[Builtin.append_,run_underlying ht,sizeOf,typeInfo,hi,Builtin.lenOf,Builtin.firstCells,Ha,storeCells]
  |some a=>
   cases A with
   |none=>simp[Builtin.append_,run_underlying ht,sizeOf,typeInfo,hi,Builtin.lenOf,Builtin.firstCells,Ha,storeCells,loadCells,loadCellsFrom]
   |some b=>simp[Builtin.append_,run_underlying ht,sizeOf,typeInfo,hi,Builtin.lenOf,Builtin.firstCells,Ha,storeCells,loadCells,loadCellsFrom]
 .obtain⟨u0,hu0⟩:∃u,news[0]?=some u:=⟨news[0]'(by omega),List.getElem?_eq_getElem (by omega)⟩;obtain⟨a,rfl,_⟩:=EL 0 u0 hu0;have Wd:∀j u,news[j]?=some u->w.cell? (a.add j)=some u:=λj u hu=>by
   obtain⟨a',e1,h2⟩:=EL j u hu;injection e1 with e1
   rw[e1];exact h2
  rcases h.2 with⟨A,rfl,rfl⟩|⟨g,cap,rest,rfl,h0,B,hc,hm⟩
  .have zG:l=[]:=List.eq_nil_of_length_eq_zero qQ;subst zG
   cases A with
   |none=>
    obtain⟨v',w',e1,h2,h3,h4⟩:=dE (P:=P) (aM.nil w e 1) T ty i0 z bytes ht hi lz jK kl hz (by omega) a m c news (by omega) Wd h1 Hc hb;exact⟨v',w',e1,Sl.xw h2,h3.mono (by simp[ah]),λg hg=>by
     have hg':g∈ah v':=by
      rcases h2.2 with⟨rfl,_⟩|⟨g',Hb,rest',rfl,_⟩
      .simp[cE]at hg
      .simp[cE]at hg;simp[ah];exact hg.2
     exact(h4 g hg').elim (λh=>by simp[ah]at h) .inr⟩
   |some b=>
    obtain⟨v',w',AU,h2,h3⟩:=run_append_arg_grows (P:=P) w T ty e i0 z 1 bytes ht hi lz jK kl hz (by omega) b 0 0 [] rfl (by simp) a m c news (by omega) Wd (by omega) Hc hb;refine⟨v',w',AU,Sl.xw (.AR h2),(ag.refl _ _).grown h3 (by simp),?_⟩;intro g hg
    rcases h2.2 with⟨rfl,_⟩|⟨g'',Hb,cur,rfl,hb',_⟩
    .simp[cE]at hg
    .simp[cE]at hg;rw[hg.2];exact .inr hb'
  .obtain⟨v',w',e1,h2,h3,h4⟩:=dE (P:=P) ⟨by omega,.inr ⟨g,cap,rest,rfl,B,by omega,hm⟩⟩ T ty i0 z bytes ht hi lz jK kl hz (by omega) a m c news (by omega) Wd h1 Hc hb;have ho:cE (U3 (some ⟨g,0,none⟩) n cap)=[g]:=by simp[cE];omega
   refine⟨v',w',e1,Sl.xw h2,by rw[ho];exact h3.mono (by simp[ah]),λx hx=>?_⟩;rw[ho];have hx':x∈ah v':=by
    rcases h2.2 with⟨rfl,_⟩|⟨g',Hb,rest',rfl,_⟩
    .simp[cE]at hx
    .simp[cE]at hx;simp[ah];exact hx.2
   exact(h4 x hx').imp (by simp[ah]) id
theorem Nt(h:Sl w e v n l)
 (T ty:pm)(z:YO)(bytes:Nat)(ht:P.underlying T=some (.slice e))(nN:(P.info? e).map (λi=>(i.zero,i.size,i.bytes))=some (some z,1,bytes))(hz:z.cells.size=1)
 (x:YO)(hx:x.oneCell'=true)(Hc:n+1<=it)(hb:(n+1)*bytes<=140737488355328):
  ∃v' w',dF P T ty (w.alloc (WF #[x] e)) v (U3 (some ⟨w.heap.size,0,none⟩) 1 1)= .ok v' w'/\Sl w' e v' (n+1) (l++[x])/\ag (cE v) w w'/\(∀g∈cE v',g∈cE v\/w.heap.size<=g):=by
 obtain⟨v',w',h1,h2,h3,h4⟩:=EP (P:=P) (h.alloc (WF #[x] e)) T ty z bytes ht nN hz (some ⟨w.heap.size,0,none⟩) 1 1 [x] rfl
  (λj u hu=>⟨_,rfl,bm (l:=[x]) (aF.new w e #[x]) 0 _ (by simp) j u hu⟩) (by intro u hu;simp at hu;subst hu;exact hx) Hc hb
 exact⟨v',w',h1,h2,((ag.refl _ _).alloc _).aU h3 (λx hx _=>hx),λg hg=>(h4 g hg).imp id (λh=>by simp at h;omega)⟩
end
theorem aF.bi{w:YB}{g:Nat}{t:pm}{cs:Array YO}(h:aF w g t cs)(i:Nat){v:YO}(hv:cs[i]?=some v:=by exact rfl):w.cell? ⟨g,i,none⟩=some v:=(h.cell i).trans hv
theorem dl{n:Int}(h:-9223372036854775808<=n/\n<=9223372036854775807:=by omega):IntKind.i64.wrap n=n:=IntWalk.i64_in n h
theorem d9{n:Int}(h:0<=n/\n<=18446744073709551615:=by omega):IntKind.u64.wrap n=n:=IntWalk.u64_in n h
theorem gc{c:Prop}{h:Decidable c}{α}{t e:α}(hc:¬c:=by omega):(if c then t else e)=e:=if_neg hc
theorem g8{c:Prop}{h:Decidable c}{α}{t e:α}(hc:c:=by omega):(if c then t else e)=t:=if_pos hc
theorem g9(p:Prop)(h:p):RowKit.Hid p:=h
theorem ip{w:YB}{W K':Act->YB->Prop}{a a':Act}(hK:Shut (∀a w,True->(True->W a w)->K' a w))(h:W a' w)(ha:a=a':=by(try simp only[Act.put,Act.put,Wa,Wb,Wc]);exact rfl):K' a w:=Shut.o hK _ _ trivial (λ_=>ha▸h)
theorem i4{α}[BEq α][LawfulBEq α]{a b:α}(h:a≠b):(a==b)=false:=by rw[beq_eq_false_iff_ne];exact h
theorem ls{α}[BEq α][LawfulBEq α]{a b:α}(h:a≠b):(a != b)=true:=by rw[bne_iff_ne];exact h
theorem i5(w:YB):RowKit.Below w.heap.size w w:=RowKit.Below.refl _ _
theorem i6(w:YB)(o:Obj):RowKit.Below w.heap.size w (w.alloc o):=(RowKit.Below.refl w.heap.size w).alloc (RowKit.Below.refl w.heap.size w).size o
abbrev i7(w w':YB):Prop:=RowKit.Below w.heap.size w w'
theorem i8{c:Prop}{h:Decidable c}{α}{t e:α}(hc:¬c:=by simp):(if c then t else e)=e:=if_neg hc
theorem i9{c:Prop}{h:Decidable c}{α}{t e:α}(hc:c:=by simp):(if c then t else e)=t:=if_pos hc
theorem jp{P:Program}{md:Region.Mode}{ops:Array Oper}{Q:Exit->Act->YB->Prop}{S:YB->Prop}{listed:Array Bool}{a:Act}{w:YB}(h:Q .normal a w)(fuel:Nat)(hr:Region.ready md ops listed=[]:=by kernel_rfl):wpAnyH P md ops Q S fuel listed a w:=wpAnyH_done hr h fuel
theorem kw{P:Program}{ops:Array Oper}{Q:Exit->Act->YB->Prop}(S:YB->Prop){id:Nat}{a:Act}{w:YB}(hS:S w.drew)(h:S w.drew->wpAnyH P .any ops Q S ops.size (Array.replicate ops.size false) a w.drew)(hm:P.follows .mixedOrders=true:=by kernel_rfl):(Code.region id ops true).wp P Q a w:=wp_region_held_drew hm hS h
instance:Coe Int YO:=⟨λn=>U5 By n⟩
instance:Coe Nat YO:=⟨λn=>U5 By (n:Int)⟩
structure ZA where g:Nat
abbrev lc:=ZA.mk
abbrev li:=YO
instance(g:Nat):CoeDep ZA (ZA.mk g) YO:=⟨.pointer (some ⟨g,0,none⟩)⟩
instance(g:Nat):CoeDep ZA (ZA.mk g) Addr:=⟨⟨g,0,none⟩⟩
instance(g:Nat):CoeDep ZA (ZA.mk g) (Option Addr):=⟨some ⟨g,0,none⟩⟩
attribute [go_sem ↓] Go.wp_at_zero Go.wp_at_succ
namespace ke
variable{r c:Nat}
def Sq:Nat:=2197175160
def tab:List Nat:=[0x00000000,0x105ec76f,0x20bd8ede,0x30e349b1,0x417b1dbc,0x5125dad3,0x61c69362,0x7198540d,
 0x82f63b78,0x92a8fc17,0xa24bb5a6,0xb21572c9,0xc38d26c4,0xd3d3e1ab,0xe330a81a,0xf36e6f75]
def nib(r:Nat):Nat:=r / 16 ^^^ tab.getD (r % 16) 0
def da(r c:Nat):Nat:=nib (nib (r ^^^ c))
def rp(r:Nat)(l:pu):Nat:=l.foldl (λr c=>da r c.toNat) r
def mr(l:pu):Nat:=4294967295-rp 4294967295 l
def z(r:Nat):Nat:=r / 2 ^^^ if r % 2=1 then Sq else 0
theorem xor_div_two(a b:Nat):(a ^^^ b) / 2=a / 2 ^^^ b / 2:=Nat.xor_div_two
theorem Jo(a b:Nat):(a ^^^ b) % 2=(a+b) % 2:=by
 have h:(a ^^^ b) % 2 ^ 1=(a % 2 ^ 1) ^^^ (b % 2 ^ 1):=Nat.xor_mod_two_pow;simp only[Nat.pow_one]at h;rw[h]
 rcases Ab a with ha|ha<;>rcases Ab b with hb|hb<;>rw[ha,hb]<;>simp<;>omega
theorem z_xor(a b:Nat):z (a ^^^ b)=z a ^^^ z b:=by
 unfold z;rw[xor_div_two,Jo]
 rcases Ab a with ha|ha<;>rcases Ab b with hb|hb
 .rw[gc,gc,gc];simp
 .rw[g8,gc,g8];simp[Nat.xor_assoc]
 .rw[g8,g8,gc,Nat.xor_zero];ac_rfl
 .rw[gc,g8,g8];simp only[Nat.xor_zero];have:a / 2 ^^^ Sq ^^^ (b / 2 ^^^ Sq)=a / 2 ^^^ b / 2 ^^^ (Sq ^^^ Sq):=by ac_rfl
  rw[this];simp
theorem We(q:Nat):z (2*q)=q:=by
 unfold z;rw[gc];simp
theorem split16(r:Nat):r=(2*(2*(2*(2*(r / 16))))) ^^^ (r % 16):=by
 have h:(2*(2*(2*(2*(r / 16)))))=2 ^ 4*(r / 16):=by omega
 rw[h];have:r % 16<2 ^ 4:=by omega
 rw[Nat.xor_comm];have e:r % 16 ^^^ 2 ^ 4*(r / 16)=2 ^ 4*(r / 16)+r % 16:=by
  apply Nat.eq_of_testBit_eq;intro i;rw[Nat.testBit_xor,Nat.testBit_two_pow_mul,Nat.testBit_two_pow_mul_add _ this]
  by_cases h4:i<4
  .simp[h4,Nat.not_le.2 h4]
  .have:(r % 16).testBit i=false:=Nat.testBit_lt_two_pow (vE this (Ae (by decide) (by omega)));simp[h4,this,Ad.1 h4]
 rw[e];omega
theorem Wf:∀n,n<16->z (z (z (z n)))=tab.getD n 0:=by decide
theorem z4_nib(r:Nat):z (z (z (z r)))=nib r:=by
 conv=>lhs;rw[split16 r]
 simp only[z_xor,We];rw[Wf _ (sN _ (by decide))];rfl
theorem poly_lt:Sq<2 ^ 32:=by decide
theorem z_lt(h:r<4294967296):z r<4294967296:=by
 unfold z;have h1:r / 2<2 ^ 32:=by omega
 split
 .exact Nat.xor_lt_two_pow h1 poly_lt
 .simpa using h1
theorem Nu(h:r<4294967296):nib r<4294967296:=by
 rw[<-z4_nib];exact z_lt (z_lt (z_lt (z_lt h)))
theorem yK(h:r<4294967296)(hc:c<256):r ^^^ c<4294967296:=
 Nat.xor_lt_two_pow (n:=32) h (by omega)
theorem Jp(h:r<4294967296)(hc:c<256):da r c<4294967296:=Nu (Nu (yK h hc))
theorem Wg(l:pu):∀{r:Nat},r<4294967296->rp r l<4294967296:=by
 induction l with
 |nil=>intro r h;exact h
 |cons c l ih=>intro r h;exact ih (Jp h (by have:=c.toNat_lt;omega))
theorem He(l:pu):mr l<4294967296:=by unfold mr;omega
theorem Sr(r:Nat):rp r []=r:=rfl
theorem Nw(r:Nat)(l:pu)(c:UInt8):rp r (l++[c])=da (rp r l) c.toNat:=by simp[rp]
def jL(n:Nat):pu:=[gn (n % 256),gn (n / 256 % 256),gn (n / 65536 % 256),gn (n / 16777216 % 256)]
def bT(l:pu):pu:=jL (mr l)++l
open Go.RowKit
def xx:Obj:=WF #[Value.int IntKind.u32 0,Value.int IntKind.u32 274646895,Value.int IntKind.u32 549293790,
     Value.int IntKind.u32 820201905,Value.int IntKind.u32 1098587580,Value.int IntKind.u32 1361435347,
     Value.int IntKind.u32 1640403810,Value.int IntKind.u32 1905808397,Value.int IntKind.u32 2197175160,
     Value.int IntKind.u32 2460548119,Value.int IntKind.u32 2722870694,Value.int IntKind.u32 2987750089,
     Value.int IntKind.u32 3280807620,Value.int IntKind.u32 3553878443,Value.int IntKind.u32 3811616794,
     Value.int IntKind.u32 4084100981] 304 (0,0)
theorem Ss:∀n,n<16->(#[Value.int IntKind.u32 0,Value.int IntKind.u32 274646895,Value.int IntKind.u32 549293790,
     Value.int IntKind.u32 820201905,Value.int IntKind.u32 1098587580,Value.int IntKind.u32 1361435347,
     Value.int IntKind.u32 1640403810,Value.int IntKind.u32 1905808397,Value.int IntKind.u32 2197175160,
     Value.int IntKind.u32 2460548119,Value.int IntKind.u32 2722870694,Value.int IntKind.u32 2987750089,
     Value.int IntKind.u32 3280807620,Value.int IntKind.u32 3553878443,Value.int IntKind.u32 3811616794,
     Value.int IntKind.u32 4084100981]:Array YO)[n]?=some (U5 Pi (tab.getD n 0:Nat)):=by
 intro n hn;have h:n=0\/n=1\/n=2\/n=3\/n=4\/n=5\/n=6\/n=7\/n=8\/n=9\/n=10\/n=11\/n=12\/n=13\/n=14\/n=15:=by omega
 rcases h with rfl|rfl|rfl|rfl|rfl|rfl|rfl|rfl|rfl|rfl|rfl|rfl|rfl|rfl|rfl|rfl<;>rfl
theorem Wh(w:YB)(n:Nat)(hn:n<16):(w.alloc xx).cell? ⟨w.heap.size,n,none⟩=some (U5 Pi (tab.getD n 0:Nat)):=by
 exact(cell_of_row _ _ _ _ _ _ (heap_alloc_new w _)).trans (Ss n hn)
def uE(r c:Nat)(k:Nat):Nat:=if k=0 then r ^^^ c else if k=1 then nib (r ^^^ c)else da r c
theorem Sw{r c:Nat}(hr:r<4294967296)(hc:c<256)(k:Nat):uE r c k<4294967296:=by
 unfold uE;have:=yK hr hc
 split
 .exact this
 .split
  .exact Nu this
  .exact Jp hr hc
theorem Jq(r c k:Nat)(hk:k<2):uE r c (k+1)=nib (uE r c k):=by
 unfold uE;have h:k=0\/k=1:=by omega
 rcases h with rfl|rfl<;>simp[da]
theorem and15(r:Nat)(h:r<4294967296):bits .and Pi (r:Int) 15=((r % 16:Nat):Int):=by
 have:=u32_and_nat r 15 h (by omega);rw[show((15:Nat):Int)=15 from rfl]at this;rw[this]
 congr 1
 exact Nat.and_two_pow_sub_one_eq_mod r 4
theorem vI(r c:Nat)(w:YB)(hr:r<4294967296)(hc:c<256):
  eq prog 243 #[U5 Pi r,U5 Nm c] w λe w'=>e=BY (U5 Pi (da r c))/\i7 w w':=by
 have hx:=u32_xor_nat r c hr (by omega);go_in
 go_wp2
 have HB:i7 w (w.alloc xx):=(Below.refl _ _).alloc (ai _) _;have hc':=Wh w
 change Code.wp _ _ _ _ (w.alloc xx)
 generalize w.alloc xx=wr at HB hc' ⊢
 go_loop [0,11] (λreg i=> ∃k:Nat,k<=2/\i=U5 By k/\reg=U5 Pi (uE r c k:Nat)) (λ_ i=>2-(intOf i).toNat)
 case atStart=>exact⟨0,by omega,rfl,rfl⟩
 case round=>
  obtain⟨k,hk,rfl,rfl⟩:=hrel;have ef:=Sw hr hc k
  by_cases h:k<2
  .have HS:=xh<|Jq r c k h;generalize uE r c k=R at *;have e1:=and15 R ef;have e2:=hc' (R % 16) (by omega);have e3:bits .xor Pi ((R / 16:Nat):Int) ((tab.getD (R % 16) 0:Nat):Int)=((nib R:Nat):Int):=by
    have:tab.getD (R % 16) 0<4294967296:=by
     have:∀n,n<16->tab.getD n 0<4294967296:=by decide
     exact this _ (by omega)
    rw[u32_xor_nat _ _ (by omega) this];rfl
   go_wp2
   go_round
   case rel=>exact⟨k+1,by omega,by go_num,by rw[HS.o,<-e3];simp⟩
   case measure=>simp[intOf];omega
  .go_wp2
   go_ret;have:k=2:=by omega
   subst this;exact⟨rfl,HB⟩
theorem QT(r:Nat)(hr:r<4294967296):bits BinOp.xor IntKind.u32 IntKind.u32.max (r:Int)=((4294967295-r:Nat):Int):=by
 have h:IntKind.u32.max=((4294967295:Nat):Int):=by rfl
 rw[h,u32_xor_nat _ _ (by omega) hr]
 congr 1
 rw[(Nat.xor_comm 4294967295 r)];have:r ^^^ (2 ^ 32-1)=2 ^ 32-1-r:=by
  apply Nat.eq_of_testBit_eq;intro i;rw[Nat.testBit_xor,Nat.testBit_two_pow_sub_one];rw[show 2 ^ 32-1-r=2 ^ 32-(r+1)from by omega,(Nat.testBit_two_pow_sub_succ (x:=r) (n:=32) (by omega) i)]
  by_cases hi:i<32
  .simp[hi]
  .simp[hi];exact Nat.testBit_lt_two_pow (vE (show r<2 ^ 32 by omega) (Ae (by decide) (by omega)))
 exact this
theorem Sx(s:rd)(k:Nat)(h:k<s.size):s.data.toList.take (k+1)=s.data.toList.take k++[s[k]]:=by
 rw[ik (by simpa using h)];rfl
theorem Wi(r:Nat)(s:rd)(w:YB)(hr:r<4294967296)(hs:s.size<=it):
  eq prog 226 #[U5 Pi r,U2 s] w λe w'=>e=BY (U5 Pi ((4294967295-rp (4294967295-r) s.data.toList:Nat):Int))/\i7 w w':=by
 have hx:=QT r hr;have Jj:rp (4294967295-r) []<4294967296:=by show 4294967295-r<_;omega
 unfold it at hs;go_in
 go_wp2
 go_loopw [5,6,11] (λreg _ i wr=> ∃k:Nat,k<=s.size/\i=U5 By k/\reg=U5 Pi ((rp (4294967295-r) (s.data.toList.take k):Nat):Int)/\i7 w wr) (λ_ _ i _=>s.size-(intOf i).toNat)
 case atStart=>exact⟨0,aW _,rfl,rfl,Below.refl _ _⟩
 case round=>
  obtain⟨k,hk,rfl,rfl,hb⟩:=hrel;have ef:=Wg (s.data.toList.take k) Jj;simp only[Sr]at ef
  by_cases h:k<s.size
  .go_wp2_with (go_at_call 243;go_call (vI _ _ _ ef (by have:=s[k].toNat_lt;omega)) as e w1 ⟨rfl,aO⟩);go_roundw
   case rel=>exact⟨k+1,by omega,by go_num,by rw[(g9 (rp (4294967295-r) (s.data.toList.take (k+1))=da (rp (4294967295-r) (s.data.toList.take k)) s[k].toNat) (by rw[Sx s k h,Nw])).o],hb.trans (aO.mono hb.size)⟩
   case measure=>simp[intOf];omega
  .have hx2:=QT _ ef;have ht:s.data.toList.take k=s.data.toList:=cm (by simp;omega);rw[ht]at hx2;rw[ht]
   go_wp2
   go_ret;exact⟨rfl,hb⟩
theorem Ba(n:Nat)(w:YB)(hn:n<4294967296):
  eq prog 202 #[U5 Pi n] w λe w'=>e=BY (.agg #[U5 Nm (n % 256:Nat),U5 Nm (n / 256 % 256:Nat),U5 Nm (n / 65536 % 256:Nat),U5 Nm (n / 16777216 % 256:Nat)])/\i7 w w':=by
 go_in
 go_wp2
 refine wp_loop_rounds 5 ?_;rw[rounds_succ]
 go_wp2
 rw[rounds_succ]
 go_wp2
 rw[rounds_succ]
 go_wp2
 rw[rounds_succ]
 go_wp2
 rw[rounds_succ]
 go_wp2
 refine bodyPost_ret (v:= .agg #[U5 Nm (n % 256:Nat),U5 Nm (n / 256 % 256:Nat),U5 Nm (n / 65536 % 256:Nat),U5 Nm (n / 16777216 % 256:Nat)]) ?_ rfl ⟨rfl,?_⟩
 .simp[results,Tryz.results202,go_sem];omega
 .exact((Below.refl _ _).alloc (ai _) _).alloc (by simp) _
theorem Hf(s:rd)(w:YB)(hs:s.size<=it):
  eq prog 203 #[U2 s] w λe w'=>e=BY (U5 Pi (mr s.data.toList:Nat))/\i7 w w':=by
 go_in;go_wp2_with (go_at_call 226;go_call (Wi 0 _ _ (by omega) hs) as e w1 ⟨rfl,aO⟩);go_ret;exact⟨rfl,aO⟩
theorem eV:(prog.info? 5).map (λi=>(i.zero,i.size,i.bytes))=some (some (U5 Nm 0),1,1):=by kernel_rfl
theorem ql:(prog.info? 5).map (·.size)=some 1:=by kernel_rfl
theorem qm(n:Int)(h0:0<=n)(h1:n<=140737488355328)(w:YB):
  (Instr.makeSlice 150 n n).run prog w=.ok (U3 (lc w.heap.size) n.toNat n.toNat) (w.alloc (WF (madeCells #[U5 Nm 0] n.toNat) 5)):=by
 obtain⟨i0,hi,lz,jK,kl⟩:=info_parts eV;simpa [jK,Value.cells]using (run_make (P:=prog) w 150 5 i0 (U5 Nm 0) underlying150 hi lz By By n n h0 (ki _) (by rw[kl];omega) (by omega))
def jM(n:Nat):List YO:=[U5 Nm ((n:Int) % 256),U5 Nm ((n:Int) / 256 % 256),U5 Nm ((n:Int) / 65536 % 256),U5 Nm ((n:Int) / 16777216 % 256)]
theorem vJ(n:Nat):jM n=dR (jL n):=by
 have t:∀n:Nat,(gn (n % 256)).toNat=n % 256:=λn=>by simp
 simp only[jM,dR,jL,List.map,bv,t];rfl
theorem Sy(n:Nat):∀v∈jM n,v.oneCell'=true:=by rw[vJ];exact sQ _
theorem ER(l:pu)(n:Nat)(hn:n=l.length)(z:YO):putAt (putAt (fd (4+n) z) 0 (jM (mr l))) 4 (dR (l.take n))=dR (bT l):=by
 subst hn;have h4:(jM (mr l)).length=4:=rfl;have e1:putAt (fd (4+l.length) z) 0 (jM (mr l))=jM (mr l)++fd l.length z:=by
  simp[putAt,h4]
 rw[e1,bT,dD,<-vJ];unfold putAt;rw[m8 (by simp[h4]),cm (by simp[h4]),lJ (by simp[h4])];simp
theorem Ah(s:rd)(w:YB)(hs:s.size<=100000000):
  eq prog 158 #[U2 s] w λe w'=>e=BY (U2 ⟨(bT s.data.toList).toArray⟩)/\i7 w w':=by
 have hmk:=λw'=>qm (4+s.size) (by omega) (by omega) w';go_in;go_wp2_with (first|(go_at_call 203;go_call (Hf _ _ (by unfold it;omega)) as e w1 ⟨rfl,aO⟩)|(go_at_call 202;go_call (Ba _ _ (He _)) as e w2 ⟨rfl,cf⟩));rw[iW]at aO;have jK:w.heap.size<w1.heap.size:=by have:=aO.size;simp at this;omega
 have kl:w.heap.size<w2.heap.size:=by have:=cf.size;omega
 have B2:=(((aF.new _ _ _).below aO (by simp)).below cf jK).alloc (WF (jM (mr s.data.toList)).toArray 257);have B3:=aF.new w2 257 (jM (mr s.data.toList)).toArray;have O3:i7 w (w2.alloc (WF (jM (mr s.data.toList)).toArray 257)):=
  ((((Below.refl _ _).alloc (ai _) _).trans (aO.mono (by simp))).trans (cf.mono (by omega))).alloc (by omega) _
 change Oper.upon _ _ _ _ _ ((Sem.run _ _ (w2.alloc (WF (jM (mr s.data.toList)).toArray 257))).andThen _)
 generalize (w2.alloc (WF (jM (mr s.data.toList)).toArray 257))=W at B2 B3 O3 ⊢;obtain⟨W4,e4,B4,O4⟩:=AO (P:=prog) B2 150 150 3 5 0 (4+s.size) (4+s.size) ⟨w2.heap.size,0,none⟩ 4 4 (jM (mr s.data.toList)) underlying150 ql
  (by show 4=min 4 (4+s.size);omega) (bm B3 0 _ (by simp)) (by show 0+4<=_;simp) (Sy _)
 rw[e4];clear e4 B2 B3;have O5:=O3.trans (O4.aK O3.size (by simp))
 go_wp2
 .have hs0:s=ByteArray.empty:=by assumption
  obtain⟨W5,e5,B5,O6⟩:=oF (P:=prog) B4 150 9 3 5 0 0 0 ByteArray.empty 0 underlying150 ql (by rfl) (by simp);have eb:putAt (putAt (fd (4+s.size) (U5 Nm 0)) 0 (jM (mr s.data.toList))) 0 (dR (ByteArray.empty.data.toList.take 0))=dR (bT s.data.toList):=by
   subst hs0;have:=ER ByteArray.empty.data.toList 0 rfl (U5 Nm 0);rw[<-this,jA];exact(xu _ _).trans (xu _ _).symm
  rw[eb]at B5;have tV:=cu (P:=prog) W5 150 9 5 underlying150 underlying5 underlying9 ⟨w.heap.size,0,none⟩ 4 4 (bT s.data.toList) (by subst hs0;rfl) (bm B5 0 _ (by simp));rw[e5];have O7:=O5.trans (O6.aK O5.size (by simp))
  go_wp2
  go_ret;exact⟨by subst hs0;rfl,O7⟩
 .obtain⟨W5,e5,B5,O6⟩:=oF (P:=prog) B4 150 9 3 5 4 s.size s.size s s.size underlying150 ql (by simp) (by rw[kS (by show 0+4<=_;simp)];simp);rw[ER _ _ (by simp)]at B5;have tV:=cu (P:=prog) W5 150 9 5 underlying150 underlying5 underlying9 ⟨w.heap.size,0,none⟩ (4+s.size) (4+s.size) (bT s.data.toList) (by simp[bT,jL];omega) (bm B5 0 _ (by simp));rw[e5];have O7:=O5.trans (O6.aK O5.size (by simp))
  go_wp2
  go_ret;exact⟨rfl,O7⟩
theorem vK(s:rd):(s.extract 0 4).data.toList=s.data.toList.take 4:=by
 rw[MY,VX,Nf];simp
theorem cut_ok(s:rd)(w:YB)(h4:4<=s.size)(hs:s.size<=it)(hc:jL (mr (s.data.toList.drop 4))=s.data.toList.take 4):
  eq prog 180 #[U2 s] w λe w'=>e=BY (.tuple #[U2 (s.extract 4 s.size),U5 By 0])/\i7 w w':=by
 unfold it at hs;have hN:mr (List.take (s.size-4) (List.drop 4 s.data.toList))<4294967296:=He _;obtain⟨N,eN⟩:∃N,mr (List.take (s.size-4) (List.drop 4 s.data.toList))=N:=⟨_,rfl⟩;have HC:=xh (show jL N=s.data.toList.take 4 from by
  rw[<-hc,<-eN,cm (by simp)])
 rw[eN]at hN;go_in;go_wp2_with (first|(go_at_call 203;go_call (Hf _ _ (by simp;unfold it;omega)) as e w1 ⟨rfl,aO⟩)|(go_at_call 202;go_call (Ba _ _ hN) as e w2 ⟨rfl,cf⟩));have B3:aF (w2.alloc (WF (jM N).toArray 257)) w2.heap.size 257 (dR (s.data.toList.take 4)).toArray:=by
  rw[vJ,HC.o];exact aF.new _ _ _
 have O3:i7 w (w2.alloc (WF (jM N).toArray 257)):=
  (aO.trans (cf.mono aO.size)).alloc (aq aO.size cf.size) _
 change Code.wp _ _ _ _ (w2.alloc (WF (jM N).toArray 257))
 generalize (w2.alloc (WF (jM N).toArray 257))=W at B3 O3 ⊢;have tV:=λn=>cu (P:=prog) (W.drewN n) 150 9 5 underlying150 underlying5 underlying9 ⟨w2.heap.size,0,none⟩ 4 4 (s.data.toList.take 4) (by simp;omega) (bm (B3.drewN n) 0 (dR (s.data.toList.take 4)) (by simp));go_quiet (fail);have hq:(!List.take 4 s.data.toList==(s.extract 0 4).toList)=false:=by rw[bQ,vK];simp
 rw[hq]
 go_wp2
 go_ret2;exact⟨rfl,de O3 _⟩
theorem Jr(s:rd)(w:YB)(h4:4<=s.size)(hs:s.size<=it)(hc:jL (mr (s.data.toList.drop 4))≠s.data.toList.take 4):
  eq prog 180 #[U2 s] w λe w'=>e=BY (.tuple #[U2 ⟨#[]⟩,U5 By 14])/\i7 w w':=by
 unfold it at hs;have hN:mr (List.take (s.size-4) (List.drop 4 s.data.toList))<4294967296:=He _;obtain⟨N,eN⟩:∃N,mr (List.take (s.size-4) (List.drop 4 s.data.toList))=N:=⟨_,rfl⟩;have HC:=xh (show jL N≠s.data.toList.take 4 from by
  intro e;apply hc;rw[<-e,<-eN,cm (by simp)])
 rw[eN]at hN;go_in;go_wp2_with (first|(go_at_call 203;go_call (Hf _ _ (by simp;unfold it;omega)) as e w1 ⟨rfl,aO⟩)|(go_at_call 202;go_call (Ba _ _ hN) as e w2 ⟨rfl,cf⟩));have B3:aF (w2.alloc (WF (jM N).toArray 257)) w2.heap.size 257 (dR (jL N)).toArray:=by
  rw[vJ];exact aF.new _ _ _
 have O3:i7 w (w2.alloc (WF (jM N).toArray 257)):=
  (aO.trans (cf.mono aO.size)).alloc (aq aO.size cf.size) _
 change Code.wp _ _ _ _ (w2.alloc (WF (jM N).toArray 257))
 generalize (w2.alloc (WF (jM N).toArray 257))=W at B3 O3 ⊢;have tV:=λn=>cu (P:=prog) (W.drewN n) 150 9 5 underlying150 underlying5 underlying9 ⟨w2.heap.size,0,none⟩ 4 4 (jL N) rfl (bm (B3.drewN n) 0 (dR (jL N)) (by simp));go_quiet (fail);have hq:(!jL N==(s.extract 0 4).toList)=true:=by rw[bQ,vK];simpa using HC.o
 rw[hq]
 go_wp2
 go_ret2;exact⟨rfl,de O3 _⟩
end ke
namespace Pk
open Go.RowKit
attribute [local go_sem ↓] bA
def Ny(N k:Nat):pu:=(List.range k).map λj=>gn (N / 256 ^ (7-j))
def wY(N:Nat):pu:=Ny N 8
theorem mu(N k:Nat):Ny N (k+1)=Ny N k++[gn (N / 256 ^ (7-k))]:=by
 unfold Ny;rw[GZ,cX];rfl
theorem qo(N k:Nat):(Ny N k).length=k:=by simp[Ny]
theorem Nz(n:Nat):Value.int Nm ((n:Int) % 256)=bv (gn n):=by
 unfold bv
 congr 1
theorem uF(N p:Nat):Value.int Nm ((N:Int) / (p:Int) % 256)=bv (gn (N / p)):=by
 rw[<-Int.natCast_ediv];exact Nz _
theorem jD(N:Nat)(hN:N<18446744073709551616)(w:YB):
  eq prog 141 #[U3 none 0 0,U5 .u64 (N:Int),U5 By 8] w λe w'=>(∃v,e=BY v/\aM w' 5 1 v 8 (dR (wY N)))/\i7 w w':=by
 go_in;go_wp
 go_loopw [0,7] (λsv iv wr=> ∃(k:Nat),k<=8/\iv=U5 By (7-(k:Int))/\aM wr 5 1 sv k (dR (Ny N k))/\i7 w wr/\Hid (∀x∈ah sv,w.heap.size<=x)) (λ_ iv _=>(intOf iv+1).toNat)
 case atStart=>exact⟨0,by omega,rfl,aM.nil _ _ _,Below.refl _ _,xh (by simp[ah])⟩
 case round=>
  obtain⟨k,hk,rfl,S,O,F⟩:=hrel;obtain⟨VA,vc,rfl⟩:=ax S;have hkk:k=0\/k=1\/k=2\/k=3\/k=4\/k=5\/k=6\/k=7\/k=8:=by omega
  rcases hkk with rfl|rfl|rfl|rfl|rfl|rfl|rfl|rfl|rfl
  .have hx:Value.int Nm ((N:Int) / 72057594037927936)=bv (gn (N / 72057594037927936)):=by rw[<-uF N 72057594037927936];congr 1;omega
   obtain⟨v',w2,ea,S2,ow,fr⟩:=dG (P:=prog) S 150 150 (U5 Nm 0) 1 underlying150 ke.eV rfl (U5 Nm ((N:Int) / 72057594037927936)) rfl (by unfold it;omega) (by omega);obtain⟨V2,jh,rfl⟩:=ax S2;have EA:=xh ea;have SX:=xh (show aM w2 5 1 (U3 V2 (0+1) jh) (0+1) (dR (Ny N (0+1)))from by
    rw[hx]at S2;rw[mu,dD];exact S2)
   have OX:=xh<|O.trans (ow.aK O.size F.o);have FX:=g9 (∀x∈ah (U3 V2 (0+1) jh),w.heap.size<=x) (λx hx=>(fr x hx).elim (F.o x) (λh=>aq O.size h));clear hx ea S S2 ow fr O;go_wp;rw[EA.o];go_wp2_with fail;go_roundw
   case rel=>exact⟨0+1,by omega,by first|rfl|simp,SX.o,OX.o,FX⟩
   case measure=>first|decide|simp[intOf]
  .have hx:Value.int Nm ((N:Int) / 281474976710656 % 256)=bv (gn (N / 281474976710656)):=uF N 281474976710656;obtain⟨v',w2,ea,S2,ow,fr⟩:=dG (P:=prog) S 150 150 (U5 Nm 0) 1 underlying150 ke.eV rfl (U5 Nm ((N:Int) / 281474976710656 % 256)) rfl (by unfold it;omega) (by omega);obtain⟨V2,jh,rfl⟩:=ax S2;have EA:=xh ea;have SX:=xh (show aM w2 5 1 (U3 V2 (1+1) jh) (1+1) (dR (Ny N (1+1)))from by
    rw[hx]at S2;rw[mu,dD];exact S2)
   have OX:=xh<|O.trans (ow.aK O.size F.o);have FX:=g9 (∀x∈ah (U3 V2 (1+1) jh),w.heap.size<=x) (λx hx=>(fr x hx).elim (F.o x) (λh=>aq O.size h));clear hx ea S S2 ow fr O;go_wp;rw[EA.o];go_wp2_with fail;go_roundw
   case rel=>exact⟨1+1,by omega,by first|rfl|simp,SX.o,OX.o,FX⟩
   case measure=>first|decide|simp[intOf]
  .have hx:Value.int Nm ((N:Int) / 1099511627776 % 256)=bv (gn (N / 1099511627776)):=uF N 1099511627776;obtain⟨v',w2,ea,S2,ow,fr⟩:=dG (P:=prog) S 150 150 (U5 Nm 0) 1 underlying150 ke.eV rfl (U5 Nm ((N:Int) / 1099511627776 % 256)) rfl (by unfold it;omega) (by omega);obtain⟨V2,jh,rfl⟩:=ax S2;have EA:=xh ea;have SX:=xh (show aM w2 5 1 (U3 V2 (2+1) jh) (2+1) (dR (Ny N (2+1)))from by
    rw[hx]at S2;rw[mu,dD];exact S2)
   have OX:=xh<|O.trans (ow.aK O.size F.o);have FX:=g9 (∀x∈ah (U3 V2 (2+1) jh),w.heap.size<=x) (λx hx=>(fr x hx).elim (F.o x) (λh=>aq O.size h));clear hx ea S S2 ow fr O;go_wp;rw[EA.o];go_wp2_with fail;go_roundw
   case rel=>exact⟨2+1,by omega,by first|rfl|simp,SX.o,OX.o,FX⟩
   case measure=>first|decide|simp[intOf]
  .have hx:Value.int Nm ((N:Int) / 4294967296 % 256)=bv (gn (N / 4294967296)):=uF N 4294967296;obtain⟨v',w2,ea,S2,ow,fr⟩:=dG (P:=prog) S 150 150 (U5 Nm 0) 1 underlying150 ke.eV rfl (U5 Nm ((N:Int) / 4294967296 % 256)) rfl (by unfold it;omega) (by omega);obtain⟨V2,jh,rfl⟩:=ax S2;have EA:=xh ea;have SX:=xh (show aM w2 5 1 (U3 V2 (3+1) jh) (3+1) (dR (Ny N (3+1)))from by
    rw[hx]at S2;rw[mu,dD];exact S2)
   have OX:=xh<|O.trans (ow.aK O.size F.o);have FX:=g9 (∀x∈ah (U3 V2 (3+1) jh),w.heap.size<=x) (λx hx=>(fr x hx).elim (F.o x) (λh=>aq O.size h));clear hx ea S S2 ow fr O;go_wp;rw[EA.o];go_wp2_with fail;go_roundw
   case rel=>exact⟨3+1,by omega,by first|rfl|simp,SX.o,OX.o,FX⟩
   case measure=>first|decide|simp[intOf]
  .have hx:Value.int Nm ((N:Int) / 16777216 % 256)=bv (gn (N / 16777216)):=uF N 16777216;obtain⟨v',w2,ea,S2,ow,fr⟩:=dG (P:=prog) S 150 150 (U5 Nm 0) 1 underlying150 ke.eV rfl (U5 Nm ((N:Int) / 16777216 % 256)) rfl (by unfold it;omega) (by omega);obtain⟨V2,jh,rfl⟩:=ax S2;have EA:=xh ea;have SX:=xh (show aM w2 5 1 (U3 V2 (4+1) jh) (4+1) (dR (Ny N (4+1)))from by
    rw[hx]at S2;rw[mu,dD];exact S2)
   have OX:=xh<|O.trans (ow.aK O.size F.o);have FX:=g9 (∀x∈ah (U3 V2 (4+1) jh),w.heap.size<=x) (λx hx=>(fr x hx).elim (F.o x) (λh=>aq O.size h));clear hx ea S S2 ow fr O;go_wp;rw[EA.o];go_wp2_with fail;go_roundw
   case rel=>exact⟨4+1,by omega,by first|rfl|simp,SX.o,OX.o,FX⟩
   case measure=>first|decide|simp[intOf]
  .have hx:Value.int Nm ((N:Int) / 65536 % 256)=bv (gn (N / 65536)):=uF N 65536;obtain⟨v',w2,ea,S2,ow,fr⟩:=dG (P:=prog) S 150 150 (U5 Nm 0) 1 underlying150 ke.eV rfl (U5 Nm ((N:Int) / 65536 % 256)) rfl (by unfold it;omega) (by omega);obtain⟨V2,jh,rfl⟩:=ax S2;have EA:=xh ea;have SX:=xh (show aM w2 5 1 (U3 V2 (5+1) jh) (5+1) (dR (Ny N (5+1)))from by
    rw[hx]at S2;rw[mu,dD];exact S2)
   have OX:=xh<|O.trans (ow.aK O.size F.o);have FX:=g9 (∀x∈ah (U3 V2 (5+1) jh),w.heap.size<=x) (λx hx=>(fr x hx).elim (F.o x) (λh=>aq O.size h));clear hx ea S S2 ow fr O;go_wp;rw[EA.o];go_wp2_with fail;go_roundw
   case rel=>exact⟨5+1,by omega,by first|rfl|simp,SX.o,OX.o,FX⟩
   case measure=>first|decide|simp[intOf]
  .have hx:Value.int Nm ((N:Int) / 256 % 256)=bv (gn (N / 256)):=uF N 256;obtain⟨v',w2,ea,S2,ow,fr⟩:=dG (P:=prog) S 150 150 (U5 Nm 0) 1 underlying150 ke.eV rfl (U5 Nm ((N:Int) / 256 % 256)) rfl (by unfold it;omega) (by omega);obtain⟨V2,jh,rfl⟩:=ax S2;have EA:=xh ea;have SX:=xh (show aM w2 5 1 (U3 V2 (6+1) jh) (6+1) (dR (Ny N (6+1)))from by
    rw[hx]at S2;rw[mu,dD];exact S2)
   have OX:=xh<|O.trans (ow.aK O.size F.o);have FX:=g9 (∀x∈ah (U3 V2 (6+1) jh),w.heap.size<=x) (λx hx=>(fr x hx).elim (F.o x) (λh=>aq O.size h));clear hx ea S S2 ow fr O;go_wp;rw[EA.o];go_wp2_with fail;go_roundw
   case rel=>exact⟨6+1,by omega,by first|rfl|simp,SX.o,OX.o,FX⟩
   case measure=>first|decide|simp[intOf]
  .have hx:Value.int Nm ((N:Int) % 256)=bv (gn N):=Nz N;obtain⟨v',w2,ea,S2,ow,fr⟩:=dG (P:=prog) S 150 150 (U5 Nm 0) 1 underlying150 ke.eV rfl (U5 Nm ((N:Int) % 256)) rfl (by unfold it;omega) (by omega);obtain⟨V2,jh,rfl⟩:=ax S2;have EA:=xh ea;have SX:=xh (show aM w2 5 1 (U3 V2 (7+1) jh) (7+1) (dR (Ny N (7+1)))from by
    rw[hx]at S2;rw[mu,dD];exact(by rw[fM,Nat.pow_zero,Nat.div_one];exact S2))
   have OX:=xh<|O.trans (ow.aK O.size F.o);have FX:=g9 (∀x∈ah (U3 V2 (7+1) jh),w.heap.size<=x) (λx hx=>(fr x hx).elim (F.o x) (λh=>aq O.size h));clear hx ea S S2 ow fr O;go_wp;rw[EA.o];go_wp2_with fail;go_roundw
   case rel=>exact⟨7+1,by omega,by first|rfl|simp,SX.o,OX.o,FX⟩
   case measure=>first|decide|simp[intOf]
  .have SX:=xh S;have OX:=xh O;go_wp2;go_ret;exact⟨⟨_,rfl,SX.o⟩,OX.o⟩
def df(n:Int):pu:=wY ((n+9223372036854775808) % 18446744073709551616).toNat
theorem I_any(n:Int)(h0:0<=n)(h1:n<=1099511627776)(w:YB):
  eq prog 88 #[n] w λe w'=>e=BY (U2 ⟨(df n).toArray⟩)/\i7 w w':=by
 obtain⟨m,rfl⟩:=dZ h0;have hN:(((m:Int)+9223372036854775808) % 18446744073709551616).toNat=m+9223372036854775808:=by omega
 have hNI:((m+9223372036854775808:Nat):Int)=(m:Int)+9223372036854775808:=by omega
 have K:=xh<|jD (m+9223372036854775808) (by omega) w;rw[hNI]at K;unfold df;rw[hN];go_in;go_wp;go_call K.o as e w1 ⟨⟨v,rfl,S⟩,hb⟩;obtain⟨g,cap,rest,rfl,B,hc,_⟩:=S.form (by omega) (by omega)
 have ST:=xh<|cu (P:=prog) w1 150 9 5 underlying150 underlying5 underlying9 ⟨g,0,none⟩ 8 cap (wY (m+9223372036854775808)) rfl (bm B 0 _ (by intro j u hu;rw[bq];exact bE (aR.1 hu).1▸hu));have HB:=xh hb;go_wp2_with fail;rw[ST.o];go_wp2;go_ret;exact⟨rfl,HB.o⟩
end Pk
namespace Pk
open Go.RowKit
def mI(l:pu):Nat:=l.foldl (λn b=>n*256+b.toNat) 0
theorem Js(l:pu)(b:UInt8):mI (l++[b])=mI l*256+b.toNat:=by simp[mI]
theorem beN_lt'(l:pu):∀n:Nat,l.foldl (λn b=>n*256+b.toNat) n<(n+1)*256 ^ l.length:=by
 induction l with
 |nil=>intro n;simp
 |cons b l ih=>
  intro n;have h2:=b.toNat_lt;rw[AM,fT,Af];refine vE (ih (n*256+b.toNat)) ?_;rw[show(n+1)*(256 ^ l.length*256)=((n+1)*256)*256 ^ l.length by rw[G8,vF (256 ^ l.length) 256]];exact G9 _ (by omega)
theorem xy(l:pu):mI l<256 ^ l.length:=by
 have:=beN_lt' l 0;rw[bq,Nat.one_mul]at this;exact this
theorem or_join(n b:Nat)(hn:n<72057594037927936)(hb:b<256):bits .or .u64 ((n:Int)*256) (b:Int)=((n*256+b:Nat):Int):=by
 have h:=bits_or_u64_nat (n*256) b (by omega) (by omega);rw[show((n*256:Nat):Int)=(n:Int)*256 by omega]at h;rw[h];have:=Nat.two_pow_add_eq_or_of_lt (i:=8) hb n;rw[show 2 ^ 8*n=n*256 by omega]at this;rw[<-this]
theorem qp(s:rd)(hs:s.size=8)(w:YB):
  eq prog 187 #[U2 s] w λe w'=>e=BY (U5 .u64 (mI s.data.toList:Nat))/\i7 w w':=by
 have HL:=g9 (s.data.toList.length=8) (by simpa using hs);go_in;go_wp
 go_loopw [3,7] (λnv iv wr=> ∃(i:Nat),i<=8/\nv=U5 .u64 (mI (s.data.toList.take i):Nat)/\iv=U5 By i/\i7 w wr) (λ_ iv _=>8-(intOf iv).toNat)
 case atStart=>exact⟨0,by omega,by simp[mI],rfl,Below.refl _ _⟩
 case round=>
  obtain⟨i,hi,rfl,rfl,O⟩:=hrel
  by_cases h:i<8
  .have hsi:i<s.size:=by omega
   have hlen:=HL.o;have hT:s.data.toList.take (i+1)=s.data.toList.take i++[s[i]]:=by
    rw[ik (by omega)];rfl
   have ef:=xy (s.data.toList.take i);rw[bC]at ef;have hlt2:mI (s.data.toList.take i)<72057594037927936:=vE ef (aq (Ae (by omega) (show min i s.data.toList.length<=7 by omega)) (by decide));have hN:mI (s.data.toList.take (i+1))=mI (s.data.toList.take i)*256+s[i].toNat:=by rw[hT,Js]
   obtain⟨n,hn⟩:∃n,mI (s.data.toList.take i)=n:=⟨_,rfl⟩;rw[hn]at hlt2 hN ⊢;have hb:=s[i].toNat_lt;have HN:=xh hN
   have OX:=xh O;go_wp;rw[(xh<|or_join n s[i].toNat hlt2 hb).o];exact⟨⟨i+1,by omega,by rw[HN.o],by go_num,OX.o⟩,by simp[intOf];omega⟩
  .obtain rfl:i=8:=by omega
   have hlen:=HL.o;have OX:=xh O;rw[cm (by omega)];go_wp2;go_ret;exact⟨rfl,OX.o⟩
theorem Wj(s:rd)(at_ n:Int)(w:YB)(h0:0<=at_)(h1:at_+n<=s.size)(hn:0<=n)(hs:s.size<=1000000):
  eq prog 186 #[U2 s,at_,n] w λe w'=>e=BY (U5 By 0)/\i7 w w':=by
 go_in;go_wp2;go_ret;exact⟨rfl,Below.refl _ _⟩
theorem ES(s:rd)(k:Nat)(w:YB)(h1:k+8<=s.size)(hs:s.size<=1000000):
  eq prog 142 #[U2 s,(k:Nat)] w λe w'=>e=BY (.tuple #[U5 .u64 (mI ((s.extract k (k+8)).data.toList):Nat),U5 By ((k:Int)+8),U5 By 0])/\i7 w w':=by
 have KG:=xh (λw=>qp (s.extract k (k+8)) (by rw[xi];omega) w);obtain⟨N,hN⟩:∃N,mI ((s.extract k (k+8)).data.toList)=N:=⟨_,rfl⟩;rw[hN]at KG ⊢
 go_in;go_wp;go_call (xh<|Wj s (k:Nat) 8 w (by omega) (by omega) (by omega) hs).o as e w1 ⟨rfl,aO⟩;have O1:=xh aO;go_wp2_with fail;go_call (KG.o _) as e w2 ⟨rfl,cf⟩;have O2:=xh<|aC O1.o cf;go_wp2_with fail
 go_ret3
 exact⟨rfl,O2.o⟩
theorem sR(s:rd)(k:Nat)(w:YB)(h1:k+8<=s.size)(hs:s.size<=1000000):
  eq prog 89 #[U2 s,(k:Nat)] w λe w'=>e=BY (.tuple #[U5 By ((mI ((s.extract k (k+8)).data.toList):Int)-9223372036854775808),U5 By ((k:Int)+8),U5 By 0])/\i7 w w':=by
 have oq:(s.extract k (k+8)).size=8:=by rw[xi];omega
 have ef:=xy (s.extract k (k+8)).data.toList;rw[show(s.extract k (k+8)).data.toList.length=8 from oq]at ef;have KU:=xh<|ES s k w h1 hs;obtain⟨N,hN⟩:∃N,mI ((s.extract k (k+8)).data.toList)=N:=⟨_,rfl⟩;rw[hN]at KU ef ⊢;have HV:=xh (show wrap64 (IntKind.u64.wrap ((N:Int)+9223372036854775808))=(N:Int)-9223372036854775808 from by
  rw[IntKind.wrap_u64];unfold wrap64;omega)
 go_in;go_wp;go_call KU.o as e w1 ⟨rfl,aO⟩;have O1:=xh aO;go_wp2_with fail
 go_ret3
 refine⟨?_,O1.o⟩;simp only[VT,cN,rk,uz,jB,HV.o]
end Pk
end Go.Proofs.YtmonobkginiajaaGreat
