/- packed. -/
import Derived.Deep.RegionHeld
import Derived.Test.YtmonobkginiajaaGreatRows
import Derived.WalkKit
import Derived.ProofKit
import Derived.OpenShut
import Derived.SizedLaws
import Derived.JoinedCond
import Derived.WalkLawsBesides
import Derived.WalkSpells
import Derived.Lib.Hide
import Derived.Laws.CopyOwn
import Derived.Deep.Draws
import Derived.Laws.Rows
import Derived.SliceStrings
import Derived.OrdersHeld
import Derived.Deep.QuietTactic
import Derived.BigQuiet
set_option linter.all false
set_option maxRecDepth 100000
set_option maxHeartbeats 8000000
namespace Go.Proofs.YtmonobkginiajaaGreat
theorem xh {p : Prop} (h : p) : RowKit.Hid p := h
end Go.Proofs.YtmonobkginiajaaGreat
namespace Go.Proofs.YtmonobkginiajaaGreat
open Go.ChangeShapes Go.WideShapes Go.ChangeAt Go.RowKit
theorem own:ownKnob Tryz.prog.godebug=none:=by kernel_rfl
theorem laidOut:laidOutB Tryz.prog=true:=by kernel_rfl
theorem vG {H:Type} {enc:TypeId×Value→H} {P:Program} (hl:laidOutB P=true) {W W':World} (hb:Below W.heap.size W W'):
  ∀(ts:List TypeId) (vs:List Value) (ds:List (DataW H)) (ps:List MemPlace),ts.all (fun t=>P.readableRec t && decide (t<P.types.size))=true→
   DataW.TrodAll enc P W 0 (fun _=>true) true ts vs ds ps→(∀x∈ps,x.block<W.heap.size)→
   DataW.TrodAll enc P W' 0 (fun b=>decide (b<W.heap.size)) true ts vs ds ps:=by
 intro ts
 induction ts with
 | nil=>
  intro vs ds ps _ h _;obtain ⟨rfl,rfl,rfl⟩:=trodAll_nil h;exact trodAll_mk0
 | cons t ts ih=>
  intro vs ds ps ht h dL;obtain ⟨v,vs',d,ds',p,q,rfl,rfl,rfl,h1,h2⟩:=trodAll_cons h;simp only [List.all_cons,Bool.and_eq_true,decide_eq_true_eq] at ht;obtain ⟨⟨hr,hs⟩,ht'⟩:=ht;refine trodAll_cons_mk (Below.trod hl hr hs h1 hb fun x hx=>dL x (List.mem_append_left _ hx)) (ih _ _ _ (by simpa using ht') h2 fun x hx=>dL x (List.mem_append_right _ hx))
theorem IW {H:Type} {enc:TypeId×Value→H} {P:Program} (hl:laidOutB P=true) {f:Func} {s:ChangeSpec} {tb:TypeId} {W W':World} {args:Array Value} {ds gs:List (DataW H)} {before:List MemPlace}
  (hW:DataW.Whole enc P f.params.toList s.vars false W args.toList ds gs before) (hv:s.vars=[])
  (hp:f.params.toList.all (fun t=>P.readableRec t && decide (t<P.types.size))=true) (hr:f.resultTypes= #[tb]) (htb:P.underlying tb=some .bool)
  (hfn:s.fn H ds={results:=[.lit (.bool true)],args:=ds}) (hb:Below W.heap.size W W'):
  s.post enc P f false true false false W args (.bool true) W':=by
 have hW':=hW;obtain ⟨p,q,hA,hV,rfl,IY,wg⟩:=hW;rw [hv] at hV;obtain ⟨rfl,rfl⟩:=trodVars_none hV;have dL:=hW'.lt;refine ⟨ds,[],_,[],p,[],hW',?_,?_,?_,hb.frame _,fun h=>by cases h⟩
 ·rw [List.append_nil,hfn,hr];exact trodAll_cons_mk (p':=[]) (shut_bool htb true) trodAll_mk0
 ·rw [List.append_nil,hfn];exact vG hl hb _ _ _ _ hp hA fun x hx=>by simpa using dL x (List.mem_append_left _ hx)
 ·rw [hv,List.append_nil,hfn];exact rfl
end Go.Proofs.YtmonobkginiajaaGreat
namespace Go.Proofs.YtmonobkginiajaaGreat
open Go.RowKit
def ax (w:World) (g:Nat) (t:TypeId) (cs:Array Value):Prop:= ∃lo hi,w.heap[g]?=some (.cells cs t (lo,hi))∧(lo=hi∨cs.size≤lo)
structure ag (S:List Nat) (w w':World):Prop where
 os:w'.os=w.os
 tape:w'.tape=w.tape
 output:w'.output=w.output
 size:w.heap.size≤w'.heap.size
 block: ∀k,k<w.heap.size→k∉S→w'.heap[k]?=w.heap[k]?
section
variable {w w' FN:World} {g:Nat} {t:TypeId} {cs:Array Value} {S S':List Nat}
theorem ag.refl (S:List Nat) (w:World):ag S w w:=⟨rfl,rfl,rfl,Nat.le_refl _,fun _ _ _=>rfl⟩
theorem ag.aS (h:ag S w w') (k:ag S' w' FN) (hs: ∀x∈S',x<w.heap.size→x∈S):ag S w FN:=
 ⟨k.os.trans h.os,k.tape.trans h.tape,k.output.trans h.output,Nat.le_trans h.size k.size,fun b hb hn=>
  (k.block b (Nat.lt_of_lt_of_le hb h.size) (fun hm=>hn (hs b hm hb))).trans (h.block b hb hn)⟩
theorem ag.trans (h:ag S w w') (k:ag S w' FN):ag S w FN:=h.aS k fun _ hx _=>hx
theorem ag.mono (h:ag S w w') (hs: ∀x∈S,x<w.heap.size→x∈S'):ag S' w w':=
 ⟨h.os,h.tape,h.output,h.size,fun b hb hn=>h.block b hb fun hm=>hn (hs b hm hb)⟩
theorem ag.ak (h:Below w.heap.size w w'):ag S w w':=⟨h.os,h.tape,h.output,h.size,fun b hb _=>h.block b hb⟩
theorem ag.below (h:ag S w w') (hs: ∀x∈S,w.heap.size≤x):Below w.heap.size w w':=
 ⟨h.os,h.tape,h.output,h.size,fun b hb=>h.block b hb fun hm=>by have:=hs b hm; omega⟩
theorem ag.ay {B:Nat} (h:ag S w w') (hB:B≤w.heap.size) (hs: ∀x∈S,B≤x):Below B w w':=
 ⟨h.os,h.tape,h.output,h.size,fun b hb=>h.block b (by omega) fun hm=>by have:=hs b hm; omega⟩
theorem ag.cZ (h:ag [] w w'):Below w.heap.size w w':=h.below (by simp)
theorem ag.drew (h:ag S w w'):ag S w w'.drew:=⟨h.os,h.tape,h.output,h.size,h.block⟩
theorem ag.drewN (h:ag S w w') (n:Nat):ag S w (w'.drewN n):=⟨h.os,h.tape,h.output,h.size,h.block⟩
theorem ag.alloc (h:ag S w w') (o:Obj):ag S w (w'.alloc o):=
 h.trans ⟨rfl,rfl,rfl,by simp,fun b hb _=>Below.heap_alloc _ _ _ hb⟩
theorem ag.setCell (h:ag S w w') {p:Addr} (hp:p.block<w.heap.size→p.block∈S) (v:Value):ag S w (w'.setCell p v):=
 ⟨h.os,h.tape,h.output,Nat.le_trans h.size (by simp [World.setCell]),fun b hb hn=>
  (Below.heap_setCell _ _ _ _ (fun e=>hn (by subst e; exact hp hb))).trans (h.block b hb hn)⟩
theorem ag.grown {row:Option Nat} (h:ag S w w') (hg:w'.grownBy FN row) (hr: ∀k,row=some k→k<w.heap.size→k∈S):ag S w FN:=
 ⟨hg.os.trans h.os,hg.tape.trans h.tape,hg.output.trans h.output,Nat.le_trans h.size hg.size,fun b hb hn=>
  (hg.block b (Nat.lt_of_lt_of_le hb h.size) (fun e=>hn (hr b e.symm hb))).trans (h.block b hb hn)⟩
theorem ag.cell (h:ag S w w') {p:Addr} (hp:p.block<w.heap.size) (hn:p.block∉S):w'.cell? p=w.cell? p:=World.cell?_of_block (w:=w) (h.block p.block hp hn)
theorem ag.frozen (h:ag S w w') {p:Addr} (hp:p.block<w.heap.size) (hn:p.block∉S):w'.frozen? p=w.frozen? p:=World.frozen?_of_block (w:=w) (h.block p.block hp hn)
theorem ax.of_eq (h:w.heap[g]?=some (.cells cs t (0,0))):ax w g t cs:=⟨0,0,h,.inl rfl⟩
theorem ax.of_same (h:ax w g t cs) (e:w'.heap[g]?=w.heap[g]?):ax w' g t cs:=by
 obtain ⟨lo,hi,h1,h2⟩:=h;exact ⟨lo,hi,e.trans h1,h2⟩
theorem ax.lt (h:ax w g t cs):g<w.heap.size:=by
 obtain ⟨lo,hi,h,_⟩:=h
 rcases Nat.lt_or_ge g w.heap.size with dL | BR
 ·exact dL
 ·rw [Array.getElem?_eq_none BR] at h; cases h
theorem ax.cell (h:ax w g t cs) (i:Nat):w.cell? ⟨g,i,none⟩=cs[i]?:=by
 obtain ⟨lo,hi,h,_⟩:=h;exact cell_of_row w g i cs t (lo,hi) h
theorem ax.ab (h:ax w g t cs) {i:Nat} {v:Value} (hv:cs[i]?=some v):w.cell? ⟨g,i,none⟩=some v:=(h.cell i).trans hv
theorem ax.frozen (h:ax w g t cs) (i:Nat) (hi:i<cs.size):w.frozen? ⟨g,i,none⟩=false:=by
 obtain ⟨lo,kN,h,h2⟩:=h;simp only [World.frozen?,h]
 rcases h2 with rfl | h2
 ·simp
 ·simp; omega
theorem ax.new (w:World) (t:TypeId) (cs:Array Value):ax (w.alloc (.cells cs t)) w.heap.size t cs:= .of_eq (heap_alloc_new w _)
theorem ax.drew (h:ax w g t cs):ax w.drew g t cs:=h
theorem ax.drewN (h:ax w g t cs) (n:Nat):ax (w.drewN n) g t cs:=h
theorem ax.alloc (h:ax w g t cs) (o:Obj):ax (w.alloc o) g t cs:=h.of_same (Below.heap_alloc w o g h.lt)
theorem ax.bq (h:ax w g t cs) (i:Nat) (u:Value):ax (w.setCell ⟨g,i,none⟩ u) g t (cs.setIfInBounds i u):=by
 obtain ⟨lo,hi,h,h2⟩:=h;exact ⟨lo,hi,by simp [World.setCell,Array.getElem?_modify,h],by simpa using h2⟩
theorem ax.aH (h:ax w g t cs) {p:Addr} (hp:g≠p.block) (u:Value):ax (w.setCell p u) g t cs:=h.of_same (Below.heap_setCell w p u g hp)
theorem ax.below {B:Nat} (h:ax w g t cs) (hb:Below B w w') (hg:g<B):ax w' g t cs:=h.of_same (hb.block g hg)
theorem ax.only (h:ax w g t cs) (hb:ag S w w') (hg:g∉S):ax w' g t cs:=h.of_same (hb.block g h.lt hg)
theorem ax.inj {t':TypeId} {cs':Array Value} (h:ax w g t cs) (h':ax w g t' cs'):t=t'∧cs=cs':=by
 obtain ⟨lo,hi,h,_⟩:=h;obtain ⟨lo',kN,h',_⟩:=h';rw [h] at h';injection h' with h'
 injection h' with e1 e2
 exact ⟨e2,e1⟩
theorem ax.jF {g':Nat} {t':TypeId} {cs':Array Value} (h:ax w g t cs) (h':ax w g' t' cs') (eg:t≠t'):g≠g':=by
 rintro rfl;exact eg (h.inj h').1
end
theorem cQ {B:Nat} {w w':World} (h:Below B w w') (n:Nat):Below B w (w'.drewN n):=⟨h.os,h.tape,h.output,h.size,h.block⟩
theorem bZ (s:ByteArray):s.toList=s.data.toList:=ByteArray.toList_eq s
theorem nJ (l:List UInt8) (s:ByteArray):(⟨l.toArray⟩++s:ByteArray)=⟨(l++s.data.toList).toArray⟩:=by
 apply ByteArray.ext;rw [ByteArray.data_append];simp
theorem ao {w a b:World} (h:Below w.heap.size w a) (k:Below a.heap.size a b):Below w.heap.size w b:=h.trans (k.mono h.size)
theorem oJ (a:Addr) (n:Nat):(a.add n).block=a.block:=by unfold Addr.add; split<;>rfl
theorem Cd (a:Addr) (i j:Nat):(a.add i).add j=a.add (i+j):=by
 unfold Addr.add
 by_cases hi:i=0<;>by_cases hj:j=0<;>simp [hi,hj,Nat.add_assoc]
theorem da {w:World} {a:Addr} {v:Value} (h:w.cell? a=some v):a.block<w.heap.size:=by
 rcases Nat.lt_or_ge a.block w.heap.size with dL | BR
 ·exact dL
 ·simp [World.cell?,Array.getElem?_eq_none BR] at h
theorem cell_lt {w:World} {a:Addr} {k:Nat} {v:Value} (h:w.cell? (a.add k)=some v):a.block<w.heap.size:=by
 rcases Nat.lt_or_ge a.block w.heap.size with dL | BR
 ·exact dL
 ·simp [World.cell?,oJ,Array.getElem?_eq_none BR] at h
def bv (b:UInt8):Value:= .int .u8 (b.toNat:Int)
def cI (l:List UInt8):List Value:=l.map bv
@[simp] theorem gG (l:List UInt8):(cI l).length=l.length:=by simp [cI]
theorem bU (l m:List UInt8):cI (l++m)=cI l++cI m:=by simp [cI]
theorem r8 (l:List UInt8) (i:Nat):(cI l)[i]?=l[i]?.map bv:=by simp [cI]
theorem oK (l:List UInt8): ∀v∈cI l,v.oneCell'=true:=by
 intro v hv;obtain ⟨b,_,rfl⟩:=List.mem_map.1 hv;rfl
theorem foldl_push (l:List UInt8): ∀s:ByteArray,(l.map fun b=>(b.toNat:Int)).foldl (fun r n=>r.push (UInt8.ofNat n.toNat)) s=⟨(s.data.toList++l).toArray⟩:=by
 induction l with
 | nil=>intro s; cases s; simp
 | cons b l ih=>
  intro s;simp only [List.map_cons,List.foldl_cons];rw [ih]
  congr 1
  simp [ByteArray.push]
theorem bs {P:Program} (w:World) (src dst e:TypeId) (hs:P.underlying src=some (.slice e)) (he:P.underlying e=some (.int .u8)) (hd:P.underlying dst=some .string)
  (a:Addr) (len cap:Nat) (l:List UInt8) (hl:l.length=len) (hc: ∀j v,(cI l)[j]?=some v→w.cell? (a.add j)=some v):
  (convert src dst (.slice (some a) len cap)).run P w= .ok (.string ⟨l.toArray⟩) w:=by
 subst hl;rw [run_convert_bytes_string w src dst e (some a) l.length cap hs he hd];have h:=run_loadCells_list (P:=P) w a (cI l) hc;rw [gG] at h;have e2:cI l=(l.map fun b=>(b.toNat:Int)).map (Value.int .u8):=by simp [cI,bv]
 rw [e2] at h;rw [run_bytesToString w a l.length cap _ h,foldl_push];simp
def putAt (cur:List Value) (o:Nat) (cs:List Value):List Value:=cur.take o++cs++cur.drop (o+cs.length)
theorem pX (cur:List Value) (o:Nat):putAt cur o []=cur:=by simp [putAt]
theorem hX {cur:List Value} {o:Nat} {cs:List Value} (h:o+cs.length≤cur.length):(putAt cur o cs).length=cur.length:=by
 simp [putAt]; omega
theorem fm (z:Value) (n:Nat):madeCells #[z] n=(List.replicate n z).toArray:=by
 apply Array.ext
 ·simp [size_madeCells]
 ·intro i h1 h2;simp [madeCells,Nat.mod_one]
theorem Ce {cur:List Value} {o:Nat} {v:Value} {cs:List Value} (h:o<cur.length):putAt (cur.set o v) (o+1) cs=putAt cur o (v::cs):=by
 unfold putAt;rw [List.length_cons,List.take_succ_eq_append_getElem (by simpa using h),List.take_set_of_le (Nat.le_refl _),List.getElem_set_self,List.drop_set_of_lt (by omega)];simp [Nat.add_assoc,Nat.add_comm 1]
theorem ax.setCells {g:Nat} {t:TypeId}: ∀(cs:List Value) {w:World} {cur:List Value} (o:Nat),ax w g t cur.toArray→o+cs.length≤cur.length→ax (w.setCells g o cs) g t (putAt cur o cs).toArray
 | [],w,cur,o,h,_=>by rw [pX]; exact h
 | v::cs,w,cur,o,h,hl=>by
  simp only [List.length_cons] at hl;have h1:=h.bq o v;rw [List.setIfInBounds_toArray] at h1;have h2:=ax.setCells cs (o+1) h1 (by rw [List.length_set]; omega);rw [Ce (by omega)] at h2;exact h2
theorem ag.setCells {S:List Nat} {w:World} {g:Nat}: ∀(cs:List Value) {w':World} (o:Nat),ag S w w'→(g<w.heap.size→g∈S)→ag S w (w'.setCells g o cs)
 | [],_,_,h,_=>h
 | v::cs,_,o,h,hg=>ag.setCells cs (o+1) (h.setCell (p:=⟨g,o,none⟩) hg v) hg
theorem sI {P:Program} {w:World} {g:Nat} {t:TypeId} {cur:List Value} (B:ax w g t cur.toArray) (dT sT ty elem:TypeId) (o oL sJ:Nat) (a:Addr) (Cf sCap:Nat) (cs:List Value)
  (hu:P.underlying dT=some (.slice elem)) (hs:(P.info? elem).map (·.size)=some 1) (hn:cs.length=Nat.min Cf oL)
  (IZ: ∀j v,cs[j]?=some v→w.cell? (a.add j)=some v) (nh:o+cs.length≤cur.length) (h1: ∀v∈cs,v.oneCell'=true):
  ∃w',(Builtin.copy_ #[dT,sT] ty #[.slice (some ⟨g,o,none⟩) oL sJ,.slice (some a) Cf sCap]).run P w= .ok (goInt cs.length) w'∧ax w' g t (putAt cur o cs).toArray∧ag [g] w w':=
 ⟨_,run_copy_cells (P:=P) w dT sT ty elem g o oL sJ a Cf sCap cs hu hs hn IZ (fun j hj=>by rw [B.cell]; simp; omega) (fun j hj=>B.frozen _ (by simp; omega)) h1,
  B.setCells cs o nh,(ag.refl _ _).setCells cs o (by simp)⟩
theorem j0 {P:Program} {w:World} {g:Nat} {t:TypeId} {cur:List Value} (B:ax w g t cur.toArray) (dT sT ty elem:TypeId) (o oL sJ:Nat) (s:ByteArray) (n:Nat)
  (hu:P.underlying dT=some (.slice elem)) (hs:(P.info? elem).map (·.size)=some 1) (hn:n=Nat.min s.size oL) (nh:o+n≤cur.length):
  ∃w',(Builtin.copy_ #[dT,sT] ty #[.slice (some ⟨g,o,none⟩) oL sJ,.string s]).run P w= .ok (goInt n) w'∧ax w' g t (putAt cur o (cI (s.data.toList.take n))).toArray∧ag [g] w w':=by
 have hl:(cI (s.data.toList.take n)).length=n:=by
  have:n≤s.size:=by rw [hn]; exact Nat.min_le_left _ _
  simp; omega
 refine ⟨w.setCells g o (cI (s.data.toList.take n)),?_,B.setCells _ o (by omega),(ag.refl _ _).setCells _ o (by simp)⟩;have pV:=run_storeCells_cells (P:=P) g o (cI (s.data.toList.take n)) 0 w (fun j hj=>by rw [B.cell]; simp; omega) (fun j hj=>B.frozen _ (by simp; omega)) (oK _);have e:List.take n (List.map (fun b:UInt8=>Value.int .u8 (b.toNat:Int)) s.data.toList)=cI (s.data.toList.take n):=by
  rw [cI,List.map_take]; rfl
 cases hq:P.info? elem with
 | none=>simp [hq] at hs
 | some i=>
  simp only [Nat.add_zero] at pV;simp [Builtin.copy_,run_underlying hu,Builtin.lenOf,Builtin.firstCells,sizeOf,typeInfo,hq,←hn];rw [e,pV];simp [Result.andThen]
theorem aV {w:World} {g:Nat} {t:TypeId} {l:List Value} (B:ax w g t l.toArray) (o:Nat) (cs:List Value) (h: ∀j v,cs[j]?=some v→l[o+j]?=some v):
  ∀j v,cs[j]?=some v→w.cell? ((⟨g,o,none⟩:Addr).add j)=some v:=by
 intro j v hv;have e:(⟨g,o,none⟩:Addr).add j=⟨g,o+j,none⟩:=by unfold Addr.add; split<;>simp_all
 rw [e,B.cell];simpa using h j v hv
def aG (w:World) (e:TypeId) (size:Nat) (v:Value) (n:Nat) (l:List Value):Prop:=
 l.length=n*size∧((v= .slice none 0 0∧n=0)∨
  ∃g cap rest,v= .slice (some ⟨g,0,none⟩) n cap∧ax w g e (l++rest).toArray∧l.length+rest.length=cap*size∧cap≤maxLen)
def ah:Value→List Nat
 | .slice (some a) _ _=>[a.block]
 | _=>[]
section
variable {w w':World} {e:TypeId} {size:Nat} {v:Value} {n:Nat} {l:List Value} {S:List Nat}
theorem aG.nil (w:World) (e:TypeId) (size:Nat):aG w e size (.slice none 0 0) 0 []:=⟨by simp,.inl ⟨rfl,rfl⟩⟩
theorem aG.only (h:aG w e size v n l) (ho:ag S w w') (hd: ∀g∈ah v,g∉S):aG w' e size v n l:=by
 refine ⟨h.1,h.2.imp id ?_⟩;rintro ⟨g,cap,rest,rfl,B,hc,hm⟩;exact ⟨g,cap,rest,rfl,B.only ho (hd g (by simp [ah])),hc,hm⟩
theorem aG.below (h:aG w e size v n l) (hb:Below w.heap.size w w'):aG w' e size v n l:=h.only (S:=[]) (.ak hb) (by simp)
theorem aG.drew (h:aG w e size v n l):aG w.drew e size v n l:=h
theorem aG.alloc (h:aG w e size v n l) (o:Obj):aG (w.alloc o) e size v n l:=h.only (S:=[]) ((ag.refl _ _).alloc o) (by simp)
theorem aG.lt (h:aG w e size v n l): ∀g∈ah v,g<w.heap.size:=by
 rcases h.2 with ⟨rfl,_⟩ | ⟨g,cap,rest,rfl,B,_⟩
 ·simp [ah]
 ·intro x hx; simp [ah] at hx; subst hx; exact B.lt
theorem aG.sK {base:Nat} (h:w.ownsRow base e size v n l):aG w e size v n l:=by
 refine ⟨h.1,h.2.imp id ?_⟩;rintro ⟨g,cap,cur,rfl,_,hh,FO,hm,hs,ht⟩;have lK:cur.toList.length=cap*size:=by simpa using hs
 refine ⟨g,cap,cur.toList.drop (n*size),rfl,?_,?_,hm⟩
 ·rw [←ht,List.take_append_drop]; exact .of_eq hh
 ·rw [h.1,List.length_drop,lK];have:n*size≤cap*size:=Nat.mul_le_mul_right _ FO;omega
theorem aG.form (h:aG w e size v n l) (hn:0<n) (hs:0<size): ∃g cap rest,v= .slice (some ⟨g,0,none⟩) n cap∧ax w g e (l++rest).toArray∧n≤cap∧l.length+rest.length=cap*size:=by
 rcases h.2 with ⟨_,h0⟩ | ⟨g,cap,rest,rfl,B,hc,_⟩
 ·omega
 ·refine ⟨g,cap,rest,rfl,B,?_,hc⟩;have h1:=h.1;have:n*size≤cap*size:=by omega
  exact Nat.le_of_mul_le_mul_right this hs
theorem aG.oM {g n' cap:Nat} (h:aG w e size (.slice (some ⟨g,0,none⟩) n' cap) n l): ∃rest,ax w g e (l++rest).toArray∧l.length+rest.length=cap*size∧n'=n∧cap≤maxLen:=by
 rcases h.2 with ⟨h0,_⟩ | ⟨g',Cg,rest,hv,B,hc,hm⟩
 ·simp at h0
 ·simp only [Value.slice.injEq,Option.some.injEq,Addr.mk.injEq,and_true] at hv;obtain ⟨rfl,rfl,rfl⟩:=hv;exact ⟨rest,B,hc,rfl,hm⟩
end
theorem cN {P:Program} {w:World} {e:TypeId} {size:Nat} {v:Value} {n:Nat} {l:List Value} (h:aG w e size v n l)
  (t ty:TypeId) (i:TypeInfo) (z:Value) (bytes:Nat) (ht:P.underlying t=some (.slice e)) (hi:P.info? e=some i) (hz:i.zero=some z)
  (sL:i.size=size) (hby:i.bytes=bytes) (hzs:z.cells.size=size) (lK:0<size)
  (a:Addr) (m c:Nat) (news:List Value) (hl:news.length=m*size) (wh: ∀j u,news[j]?=some u→w.cell? (a.add j)=some u) (h1: ∀u∈news,u.oneCell'=true)
  (zg:n+m≤maxLen) (Ch:(n+m)*bytes≤140737488355328):
  ∃v' w',(Builtin.append_ #[t,t] ty #[v,.slice (some a) m c]).run P w= .ok v' w'∧aG w' e size v' (n+m) (l++news)∧ag (ah v) w w'∧(∀g∈ah v',g∈ah v∨w.heap.size≤g):=by
 rcases h.2 with ⟨rfl,rfl⟩ | ⟨g,cap,rest,rfl,B,hc,hm⟩
 ·have vH:l=[]:=List.eq_nil_of_length_eq_zero (by simpa using h.1);subst vH;obtain ⟨v',w',hr,h2,h3,_⟩:=run_append_own (P:=P) w w.heap.size t ty e i z size bytes ht hi hz sL hby hzs lK (.slice none 0 0) 0 [] (World.ownsRow_nil _ _ _ _) a m c news hl wh h1 zg Ch (Nat.le_refl _);refine ⟨v',w',hr,.sK h2,(ag.refl _ _).grown h3 (by simp [Value.ownBlock]),?_⟩;intro g hg
  rcases h2.2 with ⟨rfl,_⟩ | ⟨g',cap,cur,rfl,hb,_⟩
  ·simp [ah] at hg
  ·simp [ah] at hg; subst hg; exact .inr hb
 ·by_cases hr:n+m≤cap
  ·subst sL;have hmul:(n+m)*i.size≤cap*i.size:=Nat.mul_le_mul_right _ hr;rw [Nat.add_mul] at hmul;have hh:=h.1;have sM:=run_append_room_cells (P:=P) w t ty e i ht hi g 0 n cap a m c news hl wh h1 hr (fun j hj=>by rw [B.cell]; simp; omega) (fun j hj=>B.frozen _ (by simp; omega));refine ⟨_,_,sM,⟨by simp [hh,hl,Nat.add_mul],.inr ⟨g,cap,rest.drop news.length,rfl,?_,by simp; omega,hm⟩⟩,(ag.refl _ _).setCells news _ (by simp [ah]),by simp [ah]⟩
   have B2:=B.setCells news (0+n*i.size) (by simp; omega);have e2:putAt (l++rest) (0+n*i.size) news=l++news++rest.drop news.length:=by
    unfold putAt;rw [Nat.zero_add,←hh,List.take_left,←List.drop_drop,List.drop_left]
   rwa [e2] at B2
  ·obtain ⟨v',w',sM,h2,h3⟩:=run_append_arg_grows (P:=P) w t ty e i z size bytes ht hi hz sL hby hzs lK ⟨g,0,none⟩ n cap l h.1 (aV B 0 l (by intro j u hu; rw [Nat.zero_add]; exact List.getElem?_append_left (List.getElem?_eq_some_iff.1 hu).1▸hu)) a m c news hl wh (by omega) zg Ch;refine ⟨v',w',sM,.sK h2,(ag.refl _ _).grown h3 (by simp),?_⟩;intro g' hg
   rcases h2.2 with ⟨rfl,_⟩ | ⟨g'',Cg,cur,rfl,hb,_⟩
   ·simp [ah] at hg
   ·simp [ah] at hg; subst hg; exact .inr hb
theorem wpList_append_run {P:Program} {w:World} {ops:Array Oper} {rest:List Oper} {o:Oper} {a:Act} {Q:Exit→Act→World→Prop} (hgd:o.guard=none) (s x:Operand) (t:TypeId)
  (ho:o.op= .call {callee:= .builtin .append,args:= #[s,x],argTypes:= #[t,t]}) (v xv:Value) (hs:a.eval s=v) (hx:a.eval x=xv) {v':Value} {w':World}
  (sM:(Builtin.append_ #[t,t] o.type #[v,xv]).run P w= .ok v' w') (h:wpList P ops Q rest (a.put o.dst v') w'):wpList P ops Q (o::rest) a w:=by
 refine wpList_plain hgd fun K hK=>?_;unfold Oper.wp;simp [execOp,ho,resolve,invoke,builtin,hs,hx,sM,Result.andThen];exact hK _ _ h
theorem rV {P:Program} (w:World) (src dst e:TypeId) (s:ByteArray) (hs:P.underlying src=some .string) (hd:P.underlying dst=some (.slice e)) (he:P.underlying e=some (.int .u8)) (hm:s.size≤maxLen):
  ∃cap w',(convert src dst (.string s)).run P w= .ok (.slice (some ⟨w.heap.size,0,none⟩) s.size cap) w'∧aG w' e 1 (.slice (some ⟨w.heap.size,0,none⟩) s.size cap) s.size (cI s.data.toList)∧Below w.heap.size w w':=by
 refine ⟨_,_,run_bytes_of_string (P:=P) w src dst e s hs hd he,⟨by simp,.inr ⟨w.heap.size,_,List.replicate (grownCap w s.size 0 e-s.size) (.int .u8 0),rfl,?_,?_,grownCap_le_maxLen _ _ _ _ hm⟩⟩,?_⟩
 ·have e1:bytesRow s (grownCap w s.size 0 e)=(cI s.data.toList++List.replicate (grownCap w s.size 0 e-s.size) (Value.int .u8 0)).toArray:=by
   apply Array.toList_inj.1;simp [bytesRow,cI];exact fun _ _=>rfl
  rw [e1];exact ⟨_,_,heap_alloc_new w.drew _,.inr (Nat.le_refl _)⟩
 ·have:=grownCap_ge w s.size 0 e;simp; omega
 ·exact ⟨rfl,rfl,rfl,by simp,fun k hk=>Below.heap_alloc w.drew _ k hk⟩
end Go.Proofs.YtmonobkginiajaaGreat
namespace Go.Proofs.YtmonobkginiajaaGreat
open Go.RowKit
noncomputable def dI (P:Program) (T ty:TypeId) (w:World) (s x:Value):Result Value:=(Builtin.append_ #[T,T] ty #[s,x]).run P w
theorem aX (P:Program) (ρ:Operand→Value) (dst:Option Tmp) (s x:Operand) (T t:TypeId) (p:String) (af:Array Edge) (g:Option (Nat×Bool)) (w:World):
  (execOp ρ {dst:=dst,op:= .call {callee:= .builtin .append,args:= #[s,x],argTypes:= #[T,T]},type:=t,pos:=p,after:=af,guard:=g}).run P w=(dI P T t w (ρ s) (ρ x)).andThen fun v w'=> .ok (.value v) w':=by
 simp [execOp,resolve,invoke,builtin,dI]
theorem cd {P:Program} {w:World} {e:TypeId} {v:Value} {n:Nat} {l:List Value} (S:aG w e 1 v n l)
  (T ty:TypeId) (z:Value) (bytes:Nat) (ht:P.underlying T=some (.slice e)) (kn:(P.info? e).map (fun i=>(i.zero,i.size,i.bytes))=some (some z,1,bytes)) (hz:z.cells.size=1)
  (x:Value) (hx:x.oneCell'=true) (zg:n+1≤maxLen) (hb:(n+1)*bytes≤140737488355328):
  ∃v' w',dI P T ty (w.alloc (.cells #[x] e)) v (.slice (some ⟨w.heap.size,0,none⟩) 1 1)= .ok v' w'∧aG w' e 1 v' (n+1) (l++[x])∧ag (ah v) w w'∧(∀g∈ah v',g∈ah v∨w.heap.size≤g):=by
 obtain ⟨i0,hi,iL,gM,iw⟩:=info_parts kn;obtain ⟨v',w',h1,h2,h3,h4⟩:=cN (P:=P) (S.alloc (.cells #[x] e)) T ty i0 z bytes ht hi iL gM iw hz (by omega)
  ⟨w.heap.size,0,none⟩ 1 1 [x] rfl (aV (l:=[x]) (ax.new w e #[x]) 0 _ (by simp)) (by intro u hu; simp at hu; subst hu; exact hx) zg hb
 exact ⟨v',w',h1,h2,((ag.refl _ _).alloc _).aS h3 (fun x hx _=>hx),fun g hg=>(h4 g hg).imp id (fun h=>by simp at h; omega)⟩
theorem aq {w:World} {e:TypeId} {size n:Nat} {v:Value} {l:List Value} (S:aG w e size v n l): ∃A c,v= .slice A n c:=by
 rcases S.2 with ⟨rfl,rfl⟩ | ⟨g,cap,rest,rfl,_⟩
 ·exact ⟨none,0,rfl⟩
 ·exact ⟨_,cap,rfl⟩
end Go.Proofs.YtmonobkginiajaaGreat
namespace Go.Proofs.YtmonobkginiajaaGreat
open Go.RowKit
theorem pa {α:Type} (l:List α) (i:Nat) (a:α):l.toArray.setIfInBounds i a=(l.set i a).toArray:=by simp
theorem pb {α:Type} (a b:α) (l:List α):(a::l).set 0 b=b::l:=rfl
theorem pc {α:Type} (a b:α) (l:List α) (n:Nat):(a::l).set (n+1) b=a::l.set n b:=rfl
theorem tkf {P:Program} {ops:Array Oper} {Q:Exit→Act→World→Prop} {md:Region.Mode} {S:World→Prop} {i:Nat} {oi:Oper} {v:Value} {fuel:Nat} {dv:Array Bool} {a:Act} {w:World} (hi:ops[i]?=some oi)
  (hb:(Region.noSelect ops && (Region.free md ops dv i && ((Region.ready md ops dv).contains i && Region.wanted oi (yielded ops a.tmps))))=true)
  (hQ: ∀c a w,Q (.panic c) (a.put oi.dst v) w→Q (.panic c) a w) (hS:S w) (y: ∀w,S w→(execOp a.eval oi).run P w= .ok (.value v) w)
  (h:wpAnyH P md ops Q S fuel (dv.setIfInBounds i true) (a.put oi.dst v) w):wpAnyH P md ops Q S (fuel+1) dv a w:=by
 simp only [Bool.and_eq_true] at hb;exact wpAnyH_take hi hb.1 hb.2.1 hb.2.2.1 hQ (Or.inl ⟨hb.2.2.2,y⟩) hS h
def Zpl (_:List (Nat×Nat)) (g:Prop):Prop:=g
theorem bR (l:List (Nat×Nat)) {g:Prop} (h:Zpl l g):g:=h
theorem bS {g:Prop} (h:g):Zpl [] g:=h
theorem ztp {P:Program} {ops:Array Oper} {Q:Exit→Act→World→Prop} {md:Region.Mode} {S:World→Prop} {l:List (Nat×Nat)} {i d:Nat} {x1 x2 x3 x4 x5} {v:Value} {fuel:Nat} {dv:Array Bool} {a:Act} {w:World} (hi:ops[i]?=some ⟨some d,x1,x2,x3,x4,x5⟩)
  (hb:(Region.noSelect ops && (Region.free md ops dv i && ((Region.ready md ops dv).contains i && Region.wanted ⟨some d,x1,x2,x3,x4,x5⟩ (yielded ops a.tmps))))=true)
  (hQ: ∀c a w,Q (.panic c) (a.put (some d) v) w→Q (.panic c) a w) (hS:S w) (y: ∀w,S w→(execOp a.eval ⟨some d,x1,x2,x3,x4,x5⟩).run P w= .ok (.value v) w)
  (h:Zpl l (wpAnyH P md ops Q S fuel (dv.setIfInBounds i true) (a.put (some d) v) w)):Zpl ((i,d)::l) (wpAnyH P md ops Q S (fuel+1) dv a w):=tkf hi hb hQ hS y h
theorem zt {P:Program} {ops:Array Oper} {Q:Exit→Act→World→Prop} {md:Region.Mode} {S:World→Prop} {l:List (Nat×Nat)} {i d:Nat} {x1 x2 x3 x4 x5} {v:Value} {fuel:Nat} {dv:Array Bool} {a:Act} {w:World}
  (h:Zpl l (wpAnyH P md ops Q S fuel (dv.setIfInBounds i true) (a.put (some d) v) w)) (hi:ops[i]?=some ⟨some d,x1,x2,x3,x4,x5⟩:=by rfl)
  (hb:(Region.noSelect ops && (Region.free md ops dv i && ((Region.ready md ops dv).contains i && Region.wanted ⟨some d,x1,x2,x3,x4,x5⟩ (yielded ops a.tmps))))=true:=by kernel_rfl)
  (hQ: ∀c a w,Q (.panic c) (a.put (some d) v) w→Q (.panic c) a w:=by exact fun _ _ _ h=>h) (hS:S w:=by assumption)
  (y: ∀w,S w→(execOp a.eval ⟨some d,x1,x2,x3,x4,x5⟩).run P w= .ok (.value v) w:=by intro w hS; (try dsimp only at hS); go_simp; try with_reducible rfl):Zpl ((i,d)::l) (wpAnyH P md ops Q S (fuel+1) dv a w):=ztp hi hb hQ hS y h
theorem eA {P:Program} {ops:Array Oper} {Q:Exit→Act→World→Prop} {md:Region.Mode} {S:World→Prop} {i:Nat} {oi:Oper} {v:Value} {fuel:Nat} {dv:Array Bool} {a:Act} {w:World}
  (hQ: ∀c a w,Q (.panic c) (a.put oi.dst v) w→Q (.panic c) a w) (h:wpAnyH P md ops Q S fuel (dv.setIfInBounds i true) (a.put oi.dst v) w) (hi:ops[i]?=some oi:=by rfl)
  (hb:(Region.noSelect ops && (Region.free md ops dv i && ((Region.ready md ops dv).contains i && Region.wanted oi (yielded ops a.tmps))))=true:=by kernel_rfl)
  (hS:S w:=by assumption) (y: ∀w,S w→(execOp a.eval oi).run P w= .ok (.value v) w:=by intro w hS; (try dsimp only at hS); go_simp; try with_reducible rfl):wpAnyH P md ops Q S (fuel+1) dv a w:=tkf hi hb hQ hS y h
theorem cA {P:Program} {ops:Array Oper} {Q:Exit→Act→World→Prop} {md:Region.Mode} {S:World→Prop} {fuel:Nat} {dv:Array Bool} {a:Act} {w:World} {i:Nat} {o:Oper}
  (h: ∀K':Act→World→Prop,Shut (∀a w,S w→(S w→wpAnyH P md ops Q S fuel (dv.setIfInBounds i true) a w)→K' a w)→if Region.wanted o (yielded ops a.tmps)=true then Oper.wp P o a w K' Q else K' (a.put o.dst undef) w)
  (hr:Region.ready md ops dv=[i]:=by kernel_rfl) (ho:ops[i]?=some o:=by rfl):wpAnyH P md ops Q S (fuel+1) dv a w:=wpAnyH_ready hr (by simp) (AllReadyH.cons ho h AllReadyH.nil)
theorem fU {P:Program} {ops:Array Oper} {Q:Exit→Act→World→Prop} {md:Region.Mode} {S:World→Prop} {i:Nat} {oi:Oper} {fuel:Nat} {dv:Array Bool} {a:Act} {w:World} (hi:ops[i]?=some oi)
  (hb:(Region.noSelect ops && (Region.free md ops dv i && ((Region.ready md ops dv).contains i && !(Region.wanted oi (yielded ops a.tmps)))))=true)
  (hQ: ∀c a w,Q (.panic c) (a.put oi.dst undef) w→Q (.panic c) a w) (hS:S w)
  (h:wpAnyH P md ops Q S fuel (dv.setIfInBounds i true) (a.put oi.dst undef) w):wpAnyH P md ops Q S (fuel+1) dv a w:=by
 simp only [Bool.and_eq_true,Bool.not_eq_true'] at hb;exact wpAnyH_take hi hb.1 hb.2.1 hb.2.2.1 hQ (Or.inr ⟨hb.2.2.2,rfl⟩) hS h
theorem exl' (u:ByteArray) (a b:Nat):(u.extract a b).data.toList=(u.data.toList.drop a).take (b-a):=by
 rw [ByteArray.data_extract,Array.toList_extract,List.extract_eq_take_drop]
theorem sN {P:Program} {f:FuncId} {args:Array Value} {w:World} {n:Nat} {v:Value} (h:Calls P f args (w.drewN n) fun e w'=>e= .returned v∧w.drewN n=w'):Calls P f args (w.drewN n) fun e FN=>e= .returned v∧ ∃m,FN=w.drewN m:=h.mono fun _ _ ⟨he,hm⟩=>⟨he,n,hm.symm⟩
theorem r9 {P:Program} {w:World} {v:Value} {n:Nat} {l:List UInt8} {e:TypeId} (S:aG w e 1 v n (cI l)) (src dst:TypeId) (hs:P.underlying src=some (.slice e)) (he:P.underlying e=some (.int .u8)) (hd:P.underlying dst=some .string):
  (convert src dst v).run P w= .ok (.string ⟨l.toArray⟩) w:=by
 have hl:=S.1
 rcases S.2 with ⟨rfl,rfl⟩ | ⟨g,cap,rest,rfl,B,hc,_⟩
 ·have vH:l=[]:=List.eq_nil_of_length_eq_zero (by simpa using hl);subst vH;rw [run_convert_bytes_string w src dst e none 0 0 hs he hd];rfl
 ·exact bs (P:=P) w src dst e hs he hd ⟨g,0,none⟩ n cap l (by simpa using hl) (aV B 0 _ (by intro j u hu; rw [Nat.zero_add]; exact List.getElem?_append_left (List.getElem?_eq_some_iff.1 hu).1▸hu))
end Go.Proofs.YtmonobkginiajaaGreat
namespace Go.Proofs.YtmonobkginiajaaGreat
open Go.RowKit
def bA:Value→List Nat
 | .slice (some a) _ c=>if c=0 then [] else [a.block]
 | _=>[]
def Sl (w:World) (e:TypeId) (v:Value) (n:Nat) (l:List Value):Prop:=
 l.length=n∧((∃A,v= .slice A 0 0∧n=0)∨
  ∃g cap rest,v= .slice (some ⟨g,0,none⟩) n cap∧0<cap∧ax w g e (l++rest).toArray∧l.length+rest.length=cap∧cap≤maxLen)
section
variable {w w':World} {e:TypeId} {v:Value} {n:Nat} {l:List Value} {S:List Nat}
theorem Sl.nil (w:World) (e:TypeId):Sl w e (.slice none 0 0) 0 []:=⟨rfl,.inl ⟨none,rfl,rfl⟩⟩
theorem Sl.pY (h:aG w e 1 v n l):Sl w e v n l:=by
 have hl:=h.1;refine ⟨by omega,?_⟩
 rcases h.2 with ⟨rfl,rfl⟩ | ⟨g,cap,rest,rfl,B,hc,hm⟩
 ·exact .inl ⟨none,rfl,rfl⟩
 ·by_cases h0:cap=0
  ·subst h0;have:n=0:=by omega
   subst this;exact .inl ⟨_,rfl,rfl⟩
  ·exact .inr ⟨g,cap,rest,rfl,by omega,B,by omega,hm⟩
theorem Sl.only (h:Sl w e v n l) (ho:ag S w w') (hd: ∀g∈bA v,g∉S):Sl w' e v n l:=by
 refine ⟨h.1,h.2.imp id ?_⟩;rintro ⟨g,cap,rest,rfl,h0,B,hc,hm⟩;exact ⟨g,cap,rest,rfl,h0,B.only ho (hd g (by simp [bA]; omega)),hc,hm⟩
theorem Sl.below (h:Sl w e v n l) (hb:Below w.heap.size w w'):Sl w' e v n l:=h.only (S:=[]) (.ak hb) (by simp)
theorem Sl.drew (h:Sl w e v n l):Sl w.drew e v n l:=h
theorem Sl.alloc (h:Sl w e v n l) (o:Obj):Sl (w.alloc o) e v n l:=h.only (S:=[]) ((ag.refl _ _).alloc o) (by simp)
theorem Sl.lt (h:Sl w e v n l): ∀g∈bA v,g<w.heap.size:=by
 rcases h.2 with ⟨A,rfl,_⟩ | ⟨g,cap,rest,rfl,h0,B,_⟩
 ·cases A<;>simp [bA]
 ·intro x hx; simp [bA] at hx; rw [hx.2]; exact B.lt
theorem Sl.val (h:Sl w e v n l): ∃A c,v= .slice A n c∧n≤c:=by
 rcases h.2 with ⟨A,rfl,rfl⟩ | ⟨g,cap,rest,rfl,_,_,hc,_⟩
 ·exact ⟨A,0,rfl,Nat.le_refl _⟩
 ·exact ⟨_,cap,rfl,by have:=h.1; omega⟩
theorem Sl.form (h:Sl w e v n l) (hn:0<n): ∃g cap rest,v= .slice (some ⟨g,0,none⟩) n cap∧ax w g e (l++rest).toArray∧n≤cap∧l.length+rest.length=cap:=by
 rcases h.2 with ⟨_,_,h0⟩ | ⟨g,cap,rest,rfl,_,B,hc,_⟩
 ·omega
 ·exact ⟨g,cap,rest,rfl,B,by have:=h.1; omega,hc⟩
theorem Sl.bq (h:Sl w e v n l) (k:Nat) (hk:k<n) (u:Value): ∃g c,v= .slice (some ⟨g,0,none⟩) n c∧Sl (w.setCell ⟨g,k,none⟩ u) e v n (l.set k u)∧bA v=[g]∧w.frozen? ⟨g,k,none⟩=false∧ag [g] w (w.setCell ⟨g,k,none⟩ u):=by
 rcases h.2 with ⟨A,rfl,h0⟩ | ⟨g,cap,rest,rfl,h0,B,hc,hm⟩
 ·omega
 ·have hl:=h.1;refine ⟨g,cap,rfl,⟨by rw [List.length_set]; exact hl,.inr ⟨g,cap,rest,rfl,h0,?_,by rw [List.length_set]; exact hc,hm⟩⟩,by simp [bA]; omega,B.frozen k (by simp; omega),(ag.refl _ _).setCell (by simp) _⟩;have B2:=B.bq k u;rw [List.setIfInBounds_toArray,List.set_append_left _ _ (by omega)] at B2;exact B2
theorem Sl.cut (h:Sl w e v n l) {A:Option Addr} {c:Nat} (hv:v= .slice A n c) (k:Nat) (hk:k≤n):Sl w e (.slice A k c) k (l.take k):=by
 have hl:=h.1;refine ⟨by rw [List.length_take]; omega,?_⟩
 rcases h.2 with ⟨A',h1,h0⟩ | ⟨g,cap,rest,h1,h0,B,hc,hm⟩
 ·rw [hv] at h1;injection h1 with h1 h2 h3
  subst h3;exact .inl ⟨A,by rw [show k=0 by omega],by omega⟩
 ·rw [hv] at h1;injection h1 with h1 h2 h3
  subst h1 h3;exact .inr ⟨g,c,l.drop k++rest,rfl,h0,by rw [←List.append_assoc,List.take_append_drop]; exact B,by rw [List.length_take,List.length_append,List.length_drop]; omega,hm⟩
end
theorem wi {P:Program} {w:World} {e:TypeId} {v:Value} {n:Nat} {l:List Value} (h:Sl w e v n l)
  (T ty:TypeId) (z:Value) (bytes:Nat) (ht:P.underlying T=some (.slice e)) (kn:(P.info? e).map (fun i=>(i.zero,i.size,i.bytes))=some (some z,1,bytes)) (hz:z.cells.size=1)
  (x:Option Addr) (m c:Nat) (news:List Value) (hl:news.length=m) (wh: ∀j u,news[j]?=some u→ ∃a,x=some a∧w.cell? (a.add j)=some u) (h1: ∀u∈news,u.oneCell'=true)
  (zg:n+m≤maxLen) (hb:(n+m)*bytes≤140737488355328):
  ∃v' w',dI P T ty w v (.slice x m c)= .ok v' w'∧Sl w' e v' (n+m) (l++news)∧ag (bA v) w w'∧(∀g∈bA v',g∈bA v∨w.heap.size≤g):=by
 obtain ⟨i0,hi,iL,gM,iw⟩:=info_parts kn;have oN:=h.1
 by_cases hm0:m=0
 ·subst hm0;have vH:news=[]:=List.eq_nil_of_length_eq_zero hl;subst vH;refine ⟨v,w,?_,by simpa using h,ag.refl _ _,fun x hx=> .inl hx⟩;unfold dI;obtain ⟨A,cc,rfl,FO⟩:=h.val
  cases x with
  | none=>cases A<;>simp [Builtin.append_,run_underlying ht,sizeOf,typeInfo,hi,Builtin.lenOf,Builtin.firstCells,FO,storeCells]
  | some a=>
   cases A with
   | none=>simp [Builtin.append_,run_underlying ht,sizeOf,typeInfo,hi,Builtin.lenOf,Builtin.firstCells,FO,storeCells,loadCells,loadCellsFrom]
   | some b=>simp [Builtin.append_,run_underlying ht,sizeOf,typeInfo,hi,Builtin.lenOf,Builtin.firstCells,FO,storeCells,loadCells,loadCellsFrom]
 ·obtain ⟨u0,hu0⟩: ∃u,news[0]?=some u:=⟨news[0]'(by omega),List.getElem?_eq_getElem (by omega)⟩;obtain ⟨a,rfl,_⟩:=wh 0 u0 hu0;have I0: ∀j u,news[j]?=some u→w.cell? (a.add j)=some u:=fun j u hu=>by
   obtain ⟨a',e1,h2⟩:=wh j u hu;injection e1 with e1
   rw [e1]; exact h2
  rcases h.2 with ⟨A,rfl,rfl⟩ | ⟨g,cap,rest,rfl,h0,B,hc,hm⟩
  ·have vH:l=[]:=List.eq_nil_of_length_eq_zero oN;subst vH
   cases A with
   | none=>
    obtain ⟨v',w',e1,h2,h3,h4⟩:=cN (P:=P) (aG.nil w e 1) T ty i0 z bytes ht hi iL gM iw hz (by omega) a m c news (by omega) I0 h1 zg hb;exact ⟨v',w',e1,Sl.pY h2,h3.mono (by simp [ah]),fun g hg=>by
     have hg':g∈ah v':=by
      rcases h2.2 with ⟨rfl,_⟩ | ⟨g',Cg,rest',rfl,_⟩
      ·simp [bA] at hg
      ·simp [bA] at hg; simp [ah]; exact hg.2
     exact (h4 g hg').elim (fun h=>by simp [ah] at h) .inr⟩
   | some b=>
    obtain ⟨v',w',sM,h2,h3⟩:=run_append_arg_grows (P:=P) w T ty e i0 z 1 bytes ht hi iL gM iw hz (by omega) b 0 0 [] rfl (by simp) a m c news (by omega) I0 (by omega) zg hb;refine ⟨v',w',sM,Sl.pY (.sK h2),(ag.refl _ _).grown h3 (by simp),?_⟩;intro g hg
    rcases h2.2 with ⟨rfl,_⟩ | ⟨g'',Cg,cur,rfl,hb',_⟩
    ·simp [bA] at hg
    ·simp [bA] at hg; rw [hg.2]; exact .inr hb'
  ·have S:aG w e 1 (.slice (some ⟨g,0,none⟩) n cap) n l:=⟨by omega,.inr ⟨g,cap,rest,rfl,B,by omega,hm⟩⟩;obtain ⟨v',w',e1,h2,h3,h4⟩:=cN (P:=P) S T ty i0 z bytes ht hi iL gM iw hz (by omega) a m c news (by omega) I0 h1 zg hb;have ho:bA (.slice (some ⟨g,0,none⟩) n cap)=[g]:=by simp [bA]; omega
   refine ⟨v',w',e1,Sl.pY h2,by rw [ho]; exact h3.mono (by simp [ah]),fun x hx=>?_⟩;rw [ho];have hx':x∈ah v':=by
    rcases h2.2 with ⟨rfl,_⟩ | ⟨g',Cg,rest',rfl,_⟩
    ·simp [bA] at hx
    ·simp [bA] at hx; simp [ah]; exact hx.2
   exact (h4 x hx').imp (by simp [ah]) id
theorem Ci {P:Program} {w:World} {e:TypeId} {v:Value} {n:Nat} {l:List Value} (h:Sl w e v n l)
  (T ty:TypeId) (z:Value) (bytes:Nat) (ht:P.underlying T=some (.slice e)) (kn:(P.info? e).map (fun i=>(i.zero,i.size,i.bytes))=some (some z,1,bytes)) (hz:z.cells.size=1)
  (x:Value) (hx:x.oneCell'=true) (zg:n+1≤maxLen) (hb:(n+1)*bytes≤140737488355328):
  ∃v' w',dI P T ty (w.alloc (.cells #[x] e)) v (.slice (some ⟨w.heap.size,0,none⟩) 1 1)= .ok v' w'∧Sl w' e v' (n+1) (l++[x])∧ag (bA v) w w'∧(∀g∈bA v',g∈bA v∨w.heap.size≤g):=by
 obtain ⟨v',w',h1,h2,h3,h4⟩:=wi (P:=P) (h.alloc (.cells #[x] e)) T ty z bytes ht kn hz (some ⟨w.heap.size,0,none⟩) 1 1 [x] rfl
  (fun j u hu=>⟨_,rfl,aV (l:=[x]) (ax.new w e #[x]) 0 _ (by simp) j u hu⟩) (by intro u hu; simp at hu; subst hu; exact hx) zg hb
 exact ⟨v',w',h1,h2,((ag.refl _ _).alloc _).aS h3 (fun x hx _=>hx),fun g hg=>(h4 g hg).imp id (fun h=>by simp at h; omega)⟩
end Go.Proofs.YtmonobkginiajaaGreat
namespace Go.Proofs.YtmonobkginiajaaGreat.gx
def FP:Nat:=2197175160
def tab:List Nat:=[0x00000000,0x105ec76f,0x20bd8ede,0x30e349b1,0x417b1dbc,0x5125dad3,0x61c69362,0x7198540d,
 0x82f63b78,0x92a8fc17,0xa24bb5a6,0xb21572c9,0xc38d26c4,0xd3d3e1ab,0xe330a81a,0xf36e6f75]
def nib (r:Nat):Nat:=r / 16 ^^^ tab.getD (r % 16) 0
def bV (r c:Nat):Nat:=nib (nib (r ^^^ c))
def lL (r:Nat) (l:List UInt8):Nat:=l.foldl (fun r c=>bV r c.toNat) r
def iM (l:List UInt8):Nat:=4294967295-lL 4294967295 l
def z (r:Nat):Nat:=r / 2 ^^^ if r % 2=1 then FP else 0
theorem xor_div_two (a b:Nat):(a ^^^ b) / 2=a / 2 ^^^ b / 2:=Nat.xor_div_two
theorem zh (a b:Nat):(a ^^^ b) % 2=(a+b) % 2:=by
 have h:(a ^^^ b) % 2 ^ 1=(a % 2 ^ 1) ^^^ (b % 2 ^ 1):=Nat.xor_mod_two_pow;simp only [Nat.pow_one] at h;rw [h]
 rcases Nat.mod_two_eq_zero_or_one a with ha | ha<;>rcases Nat.mod_two_eq_zero_or_one b with hb | hb<;>rw [ha,hb]<;>simp<;>omega
theorem z_xor (a b:Nat):z (a ^^^ b)=z a ^^^ z b:=by
 unfold z;rw [xor_div_two,zh]
 rcases Nat.mod_two_eq_zero_or_one a with ha | ha<;>rcases Nat.mod_two_eq_zero_or_one b with hb | hb
 ·rw [if_neg (by omega),if_neg (by omega),if_neg (by omega)]; simp
 ·rw [if_pos (by omega),if_neg (by omega),if_pos (by omega)]; simp [Nat.xor_assoc]
 ·rw [if_pos (by omega),if_pos (by omega),if_neg (by omega),Nat.xor_zero]; ac_rfl
 ·rw [if_neg (by omega),if_pos (by omega),if_pos (by omega)];simp only [Nat.xor_zero];have:a / 2 ^^^ FP ^^^ (b / 2 ^^^ FP)=a / 2 ^^^ b / 2 ^^^ (FP ^^^ FP):=by ac_rfl
  rw [this]; simp
theorem I1 (q:Nat):z (2*q)=q:=by
 unfold z;rw [if_neg (by omega)]; simp
theorem split16 (r:Nat):r=(2*(2*(2*(2*(r / 16))))) ^^^ (r % 16):=by
 have h:(2*(2*(2*(2*(r / 16)))))=2 ^ 4*(r / 16):=by omega
 rw [h];have:r % 16<2 ^ 4:=by omega
 rw [Nat.xor_comm];have e:r % 16 ^^^ 2 ^ 4*(r / 16)=2 ^ 4*(r / 16)+r % 16:=by
  apply Nat.eq_of_testBit_eq;intro i;rw [Nat.testBit_xor,Nat.testBit_two_pow_mul,Nat.testBit_two_pow_mul_add _ this]
  by_cases h4:i<4
  ·simp [h4,Nat.not_le.2 h4]
  ·have:(r % 16).testBit i=false:=Nat.testBit_lt_two_pow (Nat.lt_of_lt_of_le this (Nat.pow_le_pow_right (by decide) (by omega)));simp [h4,this,Nat.not_lt.1 h4]
 rw [e]; omega
theorem I2: ∀n,n<16→z (z (z (z n)))=tab.getD n 0:=by decide
theorem z4_nib (r:Nat):z (z (z (z r)))=nib r:=by
 conv=>lhs; rw [split16 r]
 simp only [z_xor,I1];rw [I2 _ (Nat.mod_lt _ (by decide))];rfl
theorem poly_lt:FP<2 ^ 32:=by decide
theorem z_lt {r:Nat} (h:r<4294967296):z r<4294967296:=by
 unfold z;have h1:r / 2<2 ^ 32:=by omega
 split
 ·exact Nat.xor_lt_two_pow h1 poly_lt
 ·simpa using h1
theorem Cj {r:Nat} (h:r<4294967296):nib r<4294967296:=by
 rw [←z4_nib]; exact z_lt (z_lt (z_lt (z_lt h)))
theorem rk {r c:Nat} (h:r<4294967296) (hc:c<256):r ^^^ c<4294967296:=
 Nat.xor_lt_two_pow (n:=32) h (by omega)
theorem zi {r c:Nat} (h:r<4294967296) (hc:c<256):bV r c<4294967296:=Cj (Cj (rk h hc))
theorem I3 (l:List UInt8): ∀{r:Nat},r<4294967296→lL r l<4294967296:=by
 induction l with
 | nil=>intro r h; exact h
 | cons c l ih=>intro r h; exact ih (zi h (by have:=c.toNat_lt; omega))
theorem xS (l:List UInt8):iM l<4294967296:=by unfold iM; omega
theorem FQ (r:Nat):lL r []=r:=rfl
theorem Ck (r:Nat) (l:List UInt8) (c:UInt8):lL r (l++[c])=bV (lL r l) c.toNat:=by simp [lL]
def gi (n:Nat):List UInt8:=[UInt8.ofNat (n % 256),UInt8.ofNat (n / 256 % 256),UInt8.ofNat (n / 65536 % 256),UInt8.ofNat (n / 16777216 % 256)]
def aY (l:List UInt8):List UInt8:=gi (iM l)++l
end Go.Proofs.YtmonobkginiajaaGreat.gx
namespace Go.Proofs.YtmonobkginiajaaGreat.gx
open Go.RowKit
def pZ:Obj:= .cells #[Value.int IntKind.u32 0,Value.int IntKind.u32 274646895,Value.int IntKind.u32 549293790,
     Value.int IntKind.u32 820201905,Value.int IntKind.u32 1098587580,Value.int IntKind.u32 1361435347,
     Value.int IntKind.u32 1640403810,Value.int IntKind.u32 1905808397,Value.int IntKind.u32 2197175160,
     Value.int IntKind.u32 2460548119,Value.int IntKind.u32 2722870694,Value.int IntKind.u32 2987750089,
     Value.int IntKind.u32 3280807620,Value.int IntKind.u32 3553878443,Value.int IntKind.u32 3811616794,
     Value.int IntKind.u32 4084100981] 304 (0,0)
theorem FU: ∀n,n<16→(#[Value.int IntKind.u32 0,Value.int IntKind.u32 274646895,Value.int IntKind.u32 549293790,
     Value.int IntKind.u32 820201905,Value.int IntKind.u32 1098587580,Value.int IntKind.u32 1361435347,
     Value.int IntKind.u32 1640403810,Value.int IntKind.u32 1905808397,Value.int IntKind.u32 2197175160,
     Value.int IntKind.u32 2460548119,Value.int IntKind.u32 2722870694,Value.int IntKind.u32 2987750089,
     Value.int IntKind.u32 3280807620,Value.int IntKind.u32 3553878443,Value.int IntKind.u32 3811616794,
     Value.int IntKind.u32 4084100981]:Array Value)[n]?=some (.int .u32 (tab.getD n 0:Nat)):=by
 intro n hn;have h:n=0∨n=1∨n=2∨n=3∨n=4∨n=5∨n=6∨n=7∨n=8∨n=9∨n=10∨n=11∨n=12∨n=13∨n=14∨n=15:=by omega
 rcases h with rfl | rfl | rfl | rfl | rfl | rfl | rfl | rfl | rfl | rfl | rfl | rfl | rfl | rfl | rfl | rfl<;>rfl
theorem I4 (w:World) (n:Nat) (hn:n<16):(w.alloc pZ).cell? ⟨w.heap.size,n,none⟩=some (.int .u32 (tab.getD n 0:Nat)):=by
 have h:(w.alloc pZ).heap[w.heap.size]?=some pZ:=heap_alloc_new w _;exact (cell_of_row _ _ _ _ _ _ h).trans (FU n hn)
def nK (r c:Nat) (k:Nat):Nat:=if k=0 then r ^^^ c else if k=1 then nib (r ^^^ c) else bV r c
theorem FV {r c:Nat} (hr:r<4294967296) (hc:c<256) (k:Nat):nK r c k<4294967296:=by
 unfold nK;have:=rk hr hc
 split
 ·exact this
 ·split
  ·exact Cj this
  ·exact zi hr hc
theorem zj (r c k:Nat) (hk:k<2):nK r c (k+1)=nib (nK r c k):=by
 unfold nK;have h:k=0∨k=1:=by omega
 rcases h with rfl | rfl<;>simp [bV]
theorem and15 (r:Nat) (h:r<4294967296):bits .and .u32 (r:Int) 15=((r % 16:Nat):Int):=by
 have:=u32_and_nat r 15 h (by omega);rw [show ((15:Nat):Int)=15 from rfl] at this;rw [this]
 congr 1
 exact Nat.and_two_pow_sub_one_eq_mod r 4
theorem oO (r c:Nat) (w:World) (hr:r<4294967296) (hc:c<256):
  Calls Tryz.prog 243 #[.int .u32 r,.int .u8 c] w fun e w'=>e= .returned (.int .u32 (bV r c))∧Below w.heap.size w w':=by
 have hx:=u32_xor_nat r c hr (by omega);go_enter Tryz.func243,Tryz.ntmps243
 go_wp2
 clear hx;have HB:Below w.heap.size w (w.alloc pZ):=(Below.refl _ _).alloc (Nat.le_refl _) _;have hc':=I4 w
 change Code.wp _ _ _ _ (w.alloc pZ)
 generalize w.alloc pZ=wr at HB hc' ⊢
 go_loop [0,11] (fun reg i=> ∃k:Nat,k≤2∧i= .int .i64 k∧reg= .int .u32 (nK r c k:Nat)) (fun _ i=>2-(intOf i).toNat)
 case atStart=>exact ⟨0,by omega,rfl,rfl⟩
 case round=>
  obtain ⟨k,hk,rfl,rfl⟩:=hrel;have dL:=FV hr hc k
  by_cases h:k<2
  ·have HS:=xh (zj r c k h);generalize nK r c k=R at *;have e1:=and15 R dL;have e2:=hc' (R % 16) (by omega);have e3:bits .xor .u32 ((R / 16:Nat):Int) ((tab.getD (R % 16) 0:Nat):Int)=((nib R:Nat):Int):=by
    have:tab.getD (R % 16) 0<4294967296:=by
     have: ∀n,n<16→tab.getD n 0<4294967296:=by decide
     exact this _ (by omega)
    rw [u32_xor_nat _ _ (by omega) this]; rfl
   clear hc'
   go_wp2
   go_round
   case rel=>exact ⟨k+1,by omega,by go_num,by rw [HS.out,←e3]; simp⟩
   case measure=>simp [intOf]; omega
  ·go_wp2
   go_ret;have:k=2:=by omega
   subst this;exact ⟨rfl,HB⟩
end Go.Proofs.YtmonobkginiajaaGreat.gx
namespace Go.Proofs.YtmonobkginiajaaGreat.gx
open Go.RowKit
theorem Ey (r:Nat) (hr:r<4294967296):bits BinOp.xor IntKind.u32 IntKind.u32.max (r:Int)=((4294967295-r:Nat):Int):=by
 have h:IntKind.u32.max=((4294967295:Nat):Int):=by rfl
 rw [h,u32_xor_nat _ _ (by omega) hr]
 congr 1
 have h2:=Nat.xor_comm 4294967295 r;rw [h2];have:r ^^^ (2 ^ 32-1)=2 ^ 32-1-r:=by
  apply Nat.eq_of_testBit_eq;intro i;rw [Nat.testBit_xor,Nat.testBit_two_pow_sub_one];have h3:=Nat.testBit_two_pow_sub_succ (x:=r) (n:=32) (by omega) i;rw [show 2 ^ 32-1-r=2 ^ 32-(r+1) from by omega,h3]
  by_cases hi:i<32
  ·simp [hi]
  ·simp [hi];exact Nat.testBit_lt_two_pow (Nat.lt_of_lt_of_le (show r<2 ^ 32 by omega) (Nat.pow_le_pow_right (by decide) (by omega)))
 exact this
theorem FW (s:ByteArray) (k:Nat) (h:k<s.size):s.data.toList.take (k+1)=s.data.toList.take k++[s[k]]:=by
 rw [List.take_succ_eq_append_getElem (by simpa using h)]; rfl
theorem I5 (r:Nat) (s:ByteArray) (w:World) (hr:r<4294967296) (hs:s.size≤maxLen):
  Calls Tryz.prog 226 #[.int .u32 r,.string s] w fun e w'=>e= .returned (.int .u32 ((4294967295-lL (4294967295-r) s.data.toList:Nat):Int))∧Below w.heap.size w w':=by
 have hx:=Ey r hr;have y8:lL (4294967295-r) []<4294967296:=by show 4294967295-r<_; omega
 unfold maxLen at hs;go_enter Tryz.func226,Tryz.ntmps226
 go_wp2
 clear hx
 go_loopw [5,6,11] (fun reg _ i wr=> ∃k:Nat,k≤s.size∧i= .int .i64 k∧reg= .int .u32 ((lL (4294967295-r) (s.data.toList.take k):Nat):Int)∧Below w.heap.size w wr) (fun _ _ i _=>s.size-(intOf i).toNat)
 case atStart=>exact ⟨0,Nat.zero_le _,rfl,rfl,Below.refl _ _⟩
 case round=>
  obtain ⟨k,hk,rfl,rfl,hb⟩:=hrel;have dL:=I3 (s.data.toList.take k) y8;simp only [FQ] at dL
  by_cases h:k<s.size
  ·have HS:=xh (show lL (4294967295-r) (s.data.toList.take (k+1))=bV (lL (4294967295-r) (s.data.toList.take k)) s[k].toNat from by rw [FW s k h,Ck]);go_wp2_with (go_at_call 243; refine (oO _ _ _ dL (by have:=s[k].toNat_lt; omega)).mono ?_; rintro e w1 ⟨rfl,aM⟩);go_roundw
   case rel=>exact ⟨k+1,by omega,by go_num,by rw [HS.out],hb.trans (aM.mono hb.size)⟩
   case measure=>simp [intOf]; omega
  ·have hx2:=Ey _ dL;have ht:s.data.toList.take k=s.data.toList:=List.take_of_length_le (by simp; omega);rw [ht] at hx2;rw [ht]
   go_wp2
   go_ret;exact ⟨rfl,hb⟩
theorem sO (n:Nat) (w:World) (hn:n<4294967296):
  Calls Tryz.prog 202 #[.int .u32 n] w fun e w'=>e= .returned (.agg #[.int .u8 (n % 256:Nat),.int .u8 (n / 256 % 256:Nat),.int .u8 (n / 65536 % 256:Nat),.int .u8 (n / 16777216 % 256:Nat)])∧Below w.heap.size w w':=by
 go_enter Tryz.func202,Tryz.ntmps202
 go_wp2
 refine wp_loop_rounds 5 ?_;rw [rounds_succ]
 go_wp2
 rw [rounds_succ]
 go_wp2
 rw [rounds_succ]
 go_wp2
 rw [rounds_succ]
 go_wp2
 rw [rounds_succ]
 go_wp2
 refine bodyPost_ret (v:= .agg #[.int .u8 (n % 256:Nat),.int .u8 (n / 256 % 256:Nat),.int .u8 (n / 65536 % 256:Nat),.int .u8 (n / 16777216 % 256:Nat)]) ?_ rfl ⟨rfl,?_⟩
 ·simp [results,Tryz.results202,go_sem];omega
 ·exact ((Below.refl _ _).alloc (Nat.le_refl _) _).alloc (by simp) _
theorem xT (s:ByteArray) (w:World) (hs:s.size≤maxLen):
  Calls Tryz.prog 203 #[.string s] w fun e w'=>e= .returned (.int .u32 (iM s.data.toList:Nat))∧Below w.heap.size w w':=by
 go_enter Tryz.func203,Tryz.ntmps203;go_wp2_with (go_at_call 226; refine (I5 0 _ _ (by omega) hs).mono ?_; rintro e w1 ⟨rfl,aM⟩);go_ret;exact ⟨rfl,aM⟩
end Go.Proofs.YtmonobkginiajaaGreat.gx
namespace Go.Proofs.YtmonobkginiajaaGreat.gx
open Go.RowKit
theorem dg:(Tryz.prog.info? 5).map (fun i=>(i.zero,i.size,i.bytes))=some (some (.int .u8 0),1,1):=by kernel_rfl
theorem kO:(Tryz.prog.info? 5).map (·.size)=some 1:=by kernel_rfl
theorem kP (n:Int) (h0:0≤n) (h1:n≤140737488355328) (w:World):
  (Instr.makeSlice 150 (.int .i64 n) (.int .i64 n)).run Tryz.prog w= .ok (.slice (some ⟨w.heap.size,0,none⟩) n.toNat n.toNat) (w.alloc (.cells (madeCells #[.int .u8 0] n.toNat) 5)):=by
 obtain ⟨i0,hi,iL,gM,iw⟩:=info_parts dg;have h:=run_make (P:=Tryz.prog) w 150 5 i0 (.int .u8 0) Tryz.underlying150 hi iL .i64 .i64 n n h0 (Int.le_refl _) (by rw [iw]; omega) (by omega);simpa [gM,Value.cells] using h
def gj (n:Nat):List Value:=[.int .u8 ((n:Int) % 256),.int .u8 ((n:Int) / 256 % 256),.int .u8 ((n:Int) / 65536 % 256),.int .u8 ((n:Int) / 16777216 % 256)]
theorem oP (n:Nat):gj n=cI (gi n):=by
 have t: ∀n:Nat,(UInt8.ofNat (n % 256)).toNat=n % 256:=fun n=>by simp
 simp only [gj,cI,gi,List.map,bv,t];rfl
theorem FY (n:Nat): ∀v∈gj n,v.oneCell'=true:=by rw [oP]; exact oK _
theorem wj (l:List UInt8) (n:Nat) (hn:n=l.length) (z:Value):putAt (putAt (List.replicate (4+n) z) 0 (gj (iM l))) 4 (cI (l.take n))=cI (aY l):=by
 subst hn;have h4:(gj (iM l)).length=4:=rfl;have e1:putAt (List.replicate (4+l.length) z) 0 (gj (iM l))=gj (iM l)++List.replicate l.length z:=by
  simp [putAt,h4]
 rw [e1,aY,bU,←oP];unfold putAt;rw [List.take_append_of_le_length (by simp [h4]),List.take_of_length_le (by simp [h4]),List.drop_eq_nil_of_le (by simp [h4])];simp
theorem sg (s:ByteArray) (w:World) (hs:s.size≤100000000):
  Calls Tryz.prog 158 #[.string s] w fun e w'=>e= .returned (.string ⟨(aY s.data.toList).toArray⟩)∧Below w.heap.size w w':=by
 have hmk:=fun w'=>kP (4+s.size) (by omega) (by omega) w';go_enter Tryz.func158,Tryz.ntmps158;go_wp2_with (first | (go_at_call 203; refine (xT _ _ (by unfold maxLen; omega)).mono ?_; rintro e w1 ⟨rfl,aM⟩) | (go_at_call 202; refine (sO _ _ (xS _)).mono ?_; rintro e w2 ⟨rfl,bT⟩));clear hmk;rw [fm] at aM;have gM:w.heap.size<w1.heap.size:=by have:=aM.size; simp at this; omega
 have iw:w.heap.size<w2.heap.size:=by have:=bT.size; omega
 have B1:ax w2 w.heap.size 5 (List.replicate (4+s.size) (.int .u8 0)).toArray:=((ax.new _ _ _).below aM (by simp)).below bT gM;have B2:=B1.alloc (.cells (gj (iM s.data.toList)).toArray 257);have B3:=ax.new w2 257 (gj (iM s.data.toList)).toArray;have O3:Below w.heap.size w (w2.alloc (.cells (gj (iM s.data.toList)).toArray 257)):=
  ((((Below.refl _ _).alloc (Nat.le_refl _) _).trans (aM.mono (by simp))).trans (bT.mono (by omega))).alloc (by omega) _
 change Oper.upon _ _ _ _ _ ((Sem.run _ _ (w2.alloc (.cells (gj (iM s.data.toList)).toArray 257))).andThen _)
 generalize (w2.alloc (.cells (gj (iM s.data.toList)).toArray 257))=W at B2 B3 O3 ⊢;obtain ⟨W4,e4,B4,O4⟩:=sI (P:=Tryz.prog) B2 150 150 3 5 0 (4+s.size) (4+s.size) ⟨w2.heap.size,0,none⟩ 4 4 (gj (iM s.data.toList)) Tryz.underlying150 kO
  (by show 4=min 4 (4+s.size); omega) (aV B3 0 _ (by simp)) (by show 0+4≤_; simp) (FY _)
 rw [e4];clear e4 B1 B2 B3;have O5:=O3.trans (O4.ay O3.size (by simp))
 go_wp2
 ·have hs0:s=ByteArray.empty:=by assumption
  obtain ⟨W5,e5,B5,O6⟩:=j0 (P:=Tryz.prog) B4 150 9 3 5 0 0 0 ByteArray.empty 0 Tryz.underlying150 kO (by rfl) (by simp);have eb:putAt (putAt (List.replicate (4+s.size) (.int .u8 0)) 0 (gj (iM s.data.toList))) 0 (cI (ByteArray.empty.data.toList.take 0))=cI (aY s.data.toList):=by
   subst hs0;have:=wj ByteArray.empty.data.toList 0 rfl (.int .u8 0);rw [←this,List.take_zero];exact (pX _ _).trans (pX _ _).symm
  rw [eb] at B5;have pV:=bs (P:=Tryz.prog) W5 150 9 5 Tryz.underlying150 Tryz.underlying5 Tryz.underlying9 ⟨w.heap.size,0,none⟩ 4 4 (aY s.data.toList) (by subst hs0; rfl) (aV B5 0 _ (by simp));rw [e5];have O7:=O5.trans (O6.ay O5.size (by simp));clear e5 B4 B5 eb
  go_wp2
  go_ret;exact ⟨by subst hs0; rfl,O7⟩
 ·obtain ⟨W5,e5,B5,O6⟩:=j0 (P:=Tryz.prog) B4 150 9 3 5 4 s.size s.size s s.size Tryz.underlying150 kO (by simp) (by rw [hX (by show 0+4≤_; simp)]; simp);rw [wj _ _ (by simp)] at B5;have pV:=bs (P:=Tryz.prog) W5 150 9 5 Tryz.underlying150 Tryz.underlying5 Tryz.underlying9 ⟨w.heap.size,0,none⟩ (4+s.size) (4+s.size) (aY s.data.toList) (by simp [aY,gi]; omega) (aV B5 0 _ (by simp));rw [e5];have O7:=O5.trans (O6.ay O5.size (by simp))
  clear e5 B4 B5
  go_wp2
  go_ret;exact ⟨rfl,O7⟩
end Go.Proofs.YtmonobkginiajaaGreat.gx
namespace Go.Proofs.YtmonobkginiajaaGreat.gx
open Go.RowKit
theorem oQ (s:ByteArray):(s.extract 0 4).data.toList=s.data.toList.take 4:=by
 rw [ByteArray.data_extract,Array.toList_extract,List.extract_eq_take_drop];simp
theorem cut_ok (s:ByteArray) (w:World) (h4:4≤s.size) (hs:s.size≤maxLen) (hc:gi (iM (s.data.toList.drop 4))=s.data.toList.take 4):
  Calls Tryz.prog 180 #[.string s] w fun e w'=>e= .returned (.tuple #[.string (s.extract 4 s.size),.int .i64 0])∧Below w.heap.size w w':=by
 unfold maxLen at hs;have hN:iM (List.take (s.size-4) (List.drop 4 s.data.toList))<4294967296:=xS _;obtain ⟨N,eN⟩: ∃N,iM (List.take (s.size-4) (List.drop 4 s.data.toList))=N:=⟨_,rfl⟩;have HC:=xh (show gi N=s.data.toList.take 4 from by
  rw [←hc,←eN,List.take_of_length_le (by simp)])
 clear hc;rw [eN] at hN;go_enter Tryz.func180,Tryz.ntmps180;go_wp2_with (first | (go_at_call 203; refine (xT _ _ (by simp; unfold maxLen; omega)).mono ?_; rintro e w1 ⟨rfl,aM⟩) | (go_at_call 202; refine (sO _ _ hN).mono ?_; rintro e w2 ⟨rfl,bT⟩));clear eN;have B3:ax (w2.alloc (.cells (gj N).toArray 257)) w2.heap.size 257 (cI (s.data.toList.take 4)).toArray:=by
  rw [oP,HC.out]; exact ax.new _ _ _
 have O3:Below w.heap.size w (w2.alloc (.cells (gj N).toArray 257)):=
  (aM.trans (bT.mono aM.size)).alloc (Nat.le_trans aM.size bT.size) _
 change Code.wp _ _ _ _ (w2.alloc (.cells (gj N).toArray 257))
 generalize (w2.alloc (.cells (gj N).toArray 257))=W at B3 O3 ⊢;have pV:=fun n=>bs (P:=Tryz.prog) (W.drewN n) 150 9 5 Tryz.underlying150 Tryz.underlying5 Tryz.underlying9 ⟨w2.heap.size,0,none⟩ 4 4 (s.data.toList.take 4) (by simp; omega) (aV (B3.drewN n) 0 (cI (s.data.toList.take 4)) (by simp));go_quiet (fail);have hq:(!List.take 4 s.data.toList==(s.extract 0 4).toList)=false:=by rw [bZ,oQ]; simp
 rw [hq]
 go_wp2
 go_ret2;exact ⟨rfl,cQ O3 _⟩
theorem zk (s:ByteArray) (w:World) (h4:4≤s.size) (hs:s.size≤maxLen) (hc:gi (iM (s.data.toList.drop 4))≠s.data.toList.take 4):
  Calls Tryz.prog 180 #[.string s] w fun e w'=>e= .returned (.tuple #[.string ⟨#[]⟩,.int .i64 14])∧Below w.heap.size w w':=by
 unfold maxLen at hs;have hN:iM (List.take (s.size-4) (List.drop 4 s.data.toList))<4294967296:=xS _;obtain ⟨N,eN⟩: ∃N,iM (List.take (s.size-4) (List.drop 4 s.data.toList))=N:=⟨_,rfl⟩;have HC:=xh (show gi N≠s.data.toList.take 4 from by
  intro e; apply hc; rw [←e,←eN,List.take_of_length_le (by simp)])
 clear hc;rw [eN] at hN;go_enter Tryz.func180,Tryz.ntmps180;go_wp2_with (first | (go_at_call 203; refine (xT _ _ (by simp; unfold maxLen; omega)).mono ?_; rintro e w1 ⟨rfl,aM⟩) | (go_at_call 202; refine (sO _ _ hN).mono ?_; rintro e w2 ⟨rfl,bT⟩));clear eN;have B3:ax (w2.alloc (.cells (gj N).toArray 257)) w2.heap.size 257 (cI (gi N)).toArray:=by
  rw [oP]; exact ax.new _ _ _
 have O3:Below w.heap.size w (w2.alloc (.cells (gj N).toArray 257)):=
  (aM.trans (bT.mono aM.size)).alloc (Nat.le_trans aM.size bT.size) _
 change Code.wp _ _ _ _ (w2.alloc (.cells (gj N).toArray 257))
 generalize (w2.alloc (.cells (gj N).toArray 257))=W at B3 O3 ⊢;have pV:=fun n=>bs (P:=Tryz.prog) (W.drewN n) 150 9 5 Tryz.underlying150 Tryz.underlying5 Tryz.underlying9 ⟨w2.heap.size,0,none⟩ 4 4 (gi N) rfl (aV (B3.drewN n) 0 (cI (gi N)) (by simp));go_quiet (fail);have hq:(!gi N==(s.extract 0 4).toList)=true:=by rw [bZ,oQ]; simpa using HC.out
 rw [hq]
 go_wp2
 go_ret2;exact ⟨rfl,cQ O3 _⟩
end Go.Proofs.YtmonobkginiajaaGreat.gx
namespace Go.Proofs.YtmonobkginiajaaGreat.gx
end Go.Proofs.YtmonobkginiajaaGreat.gx
namespace Go.Proofs.YtmonobkginiajaaGreat.gx
open Go.RowKit
end Go.Proofs.YtmonobkginiajaaGreat.gx
