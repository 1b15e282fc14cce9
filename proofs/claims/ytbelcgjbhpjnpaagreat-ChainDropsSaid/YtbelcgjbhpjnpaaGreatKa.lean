/-
 What every law's proof of this seat needs: from 'every call returns true and turns nothing old' to the row's 'post'.
-/
import Derived.Test.YtbelcgjbhpjnpaaGreatRows
import Derived.WalkKit
import Derived.ProofKit
import Derived.OpenShut
import Derived.SizedLaws
import Derived.JoinedCond
import Derived.WalkLawsBesides
import Derived.WalkSpells
import Derived.Lib.Hide
import Derived.Laws.CopyOwn
import Derived.Deep.Draws
import Derived.Laws.Rows
import Derived.SliceStrings
import Derived.OrdersHeld
set_option linter.all false
set_option linter.unusedVariables false
set_option linter.unusedSimpArgs false
set_option maxRecDepth 100000
namespace Go.Proofs.YtbelcgjbhpjnpaaGreat
open Go.ChangeShapes Go.WideShapes Go.ChangeAt Go.RowKit

theorem own : ownKnob Tryz.prog.godebug = none := by kernel_rfl
theorem laidOut : laidOutB Tryz.prog = true := by kernel_rfl

theorem trodAll_below {H : Type} {enc : TypeId × Value → H} {P : Program} (hl : laidOutB P = true) {W W' : World} (hb : Below W.heap.size W W') :
  ∀ (ts : List TypeId) (vs : List Value) (ds : List (DataW H)) (ps : List MemPlace), ts.all (fun t => P.readableRec t && decide (t < P.types.size)) = true →
   DataW.TrodAll enc P W 0 (fun _ => true) true ts vs ds ps → (∀ x ∈ ps, x.block < W.heap.size) →
   DataW.TrodAll enc P W' 0 (fun b => decide (b < W.heap.size)) true ts vs ds ps := by
 intro ts
 induction ts with
 | nil =>
  intro vs ds ps _ h _
  obtain ⟨rfl, rfl, rfl⟩ := trodAll_nil h
  exact trodAll_mk0
 | cons t ts ih =>
  intro vs ds ps ht h hlt
  obtain ⟨v, vs', d, ds', p, q, rfl, rfl, rfl, h1, h2⟩ := trodAll_cons h
  simp only [List.all_cons, Bool.and_eq_true, decide_eq_true_eq] at ht
  obtain ⟨⟨hr, hs⟩, ht'⟩ := ht
  refine trodAll_cons_mk (Below.trod hl hr hs h1 hb fun x hx => hlt x (List.mem_append_left _ hx)) (ih _ _ _ (by simpa using ht') h2 fun x hx => hlt x (List.mem_append_right _ hx))

/-- THE ROW's END: a call that returned true and turned nothing old. -/
theorem law_post {H : Type} {enc : TypeId × Value → H} {P : Program} (hl : laidOutB P = true) {f : Func} {s : ChangeSpec} {tb : TypeId} {W W' : World} {args : Array Value} {ds gs : List (DataW H)} {before : List MemPlace}
  (hW : DataW.Whole enc P f.params.toList s.vars false W args.toList ds gs before) (hv : s.vars = [])
  (hp : f.params.toList.all (fun t => P.readableRec t && decide (t < P.types.size)) = true) (hr : f.resultTypes = #[tb]) (htb : P.underlying tb = some .bool)
  (hfn : s.fn H ds = { results := [.lit (.bool true)], args := ds }) (hb : Below W.heap.size W W') :
  s.post enc P f false true false false W args (.bool true) W' := by
 have hW' := hW
 obtain ⟨p, q, hA, hV, rfl, hfz, hnd⟩ := hW
 rw [hv] at hV
 obtain ⟨rfl, rfl⟩ := trodVars_none hV
 have hlt := hW'.lt
 refine ⟨ds, [], _, [], p, [], hW', ?_, ?_, ?_, hb.frame _, fun h => by cases h⟩
 ·rw [List.append_nil, hfn, hr]
  exact trodAll_cons_mk (p' := []) (shut_bool htb true) trodAll_mk0
 ·rw [List.append_nil, hfn]
  exact trodAll_below hl hb _ _ _ _ hp hA fun x hx => by simpa using hlt x (List.mem_append_left _ hx)
 ·rw [hv, List.append_nil, hfn]
  exact rfl
end Go.Proofs.YtbelcgjbhpjnpaaGreat

/-
 Words for memory that this seat's proofs share: blocks known whole, worlds that part in some blocks alone, bytes that lie in a block.
-/
namespace Go.Proofs.YtbelcgjbhpjnpaaGreat
open Go.RowKit

/-- block g is just the cells cs of element type t, none frozen -/
def Blk (w : World) (g : Nat) (t : TypeId) (cs : Array Value) : Prop := ∃ lo hi, w.heap[g]? = some (.cells cs t (lo, hi)) ∧ (lo = hi ∨ cs.size ≤ lo)

/-- worlds that part in the blocks of S alone (and in new ones) -/
structure Only (S : List Nat) (w w' : World) : Prop where
 os : w'.os = w.os
 tape : w'.tape = w.tape
 output : w'.output = w.output
 size : w.heap.size ≤ w'.heap.size
 block : ∀ k, k < w.heap.size → k ∉ S → w'.heap[k]? = w.heap[k]?

section
variable {w w' w'' : World} {g : Nat} {t : TypeId} {cs : Array Value} {S S' : List Nat}
theorem Only.refl (S : List Nat) (w : World) : Only S w w := ⟨rfl, rfl, rfl, Nat.le_refl _, fun _ _ _ => rfl⟩
theorem Only.trans_of (h : Only S w w') (k : Only S' w' w'') (hs : ∀ x ∈ S', x < w.heap.size → x ∈ S) : Only S w w'' :=
 ⟨k.os.trans h.os, k.tape.trans h.tape, k.output.trans h.output, Nat.le_trans h.size k.size, fun b hb hn =>
  (k.block b (Nat.lt_of_lt_of_le hb h.size) (fun hm => hn (hs b hm hb))).trans (h.block b hb hn)⟩
theorem Only.trans (h : Only S w w') (k : Only S w' w'') : Only S w w'' := h.trans_of k fun _ hx _ => hx
theorem Only.mono (h : Only S w w') (hs : ∀ x ∈ S, x < w.heap.size → x ∈ S') : Only S' w w' :=
 ⟨h.os, h.tape, h.output, h.size, fun b hb hn => h.block b hb fun hm => hn (hs b hm hb)⟩
theorem Only.of_below (h : Below w.heap.size w w') : Only S w w' := ⟨h.os, h.tape, h.output, h.size, fun b hb _ => h.block b hb⟩
theorem Only.below (h : Only S w w') (hs : ∀ x ∈ S, w.heap.size ≤ x) : Below w.heap.size w w' :=
 ⟨h.os, h.tape, h.output, h.size, fun b hb => h.block b hb fun hm => by have := hs b hm; omega⟩
theorem Only.below_of {B : Nat} (h : Only S w w') (hB : B ≤ w.heap.size) (hs : ∀ x ∈ S, B ≤ x) : Below B w w' :=
 ⟨h.os, h.tape, h.output, h.size, fun b hb => h.block b (by omega) fun hm => by have := hs b hm; omega⟩
theorem Only.below_nil (h : Only [] w w') : Below w.heap.size w w' := h.below (by simp)
theorem Only.drew (h : Only S w w') : Only S w w'.drew := ⟨h.os, h.tape, h.output, h.size, h.block⟩
theorem Only.drewN (h : Only S w w') (n : Nat) : Only S w (w'.drewN n) := ⟨h.os, h.tape, h.output, h.size, h.block⟩
theorem Only.alloc (h : Only S w w') (o : Obj) : Only S w (w'.alloc o) :=
 h.trans ⟨rfl, rfl, rfl, by simp, fun b hb _ => Below.heap_alloc _ _ _ hb⟩
theorem Only.setCell (h : Only S w w') {p : Addr} (hp : p.block < w.heap.size → p.block ∈ S) (v : Value) : Only S w (w'.setCell p v) :=
 ⟨h.os, h.tape, h.output, Nat.le_trans h.size (by simp [World.setCell]), fun b hb hn =>
  (Below.heap_setCell _ _ _ _ (fun e => hn (by subst e; exact hp hb))).trans (h.block b hb hn)⟩
theorem Only.setRow (h : Only S w w') {g : Nat} (hp : g < w.heap.size → g ∈ S) (c : Array Value) : Only S w (w'.setRow g c) :=
 ⟨h.os, h.tape, h.output, Nat.le_trans h.size (by simp), fun b hb hn =>
  (setRow_other _ _ _ _ (fun e => hn (by subst e; exact hp hb))).trans (h.block b hb hn)⟩
theorem Only.grown {row : Option Nat} (h : Only S w w') (hg : w'.grownBy w'' row) (hr : ∀ k, row = some k → k < w.heap.size → k ∈ S) : Only S w w'' :=
 ⟨hg.os.trans h.os, hg.tape.trans h.tape, hg.output.trans h.output, Nat.le_trans h.size hg.size, fun b hb hn =>
  (hg.block b (Nat.lt_of_lt_of_le hb h.size) (fun e => hn (hr b e.symm hb))).trans (h.block b hb hn)⟩
theorem Only.cell (h : Only S w w') {p : Addr} (hp : p.block < w.heap.size) (hn : p.block ∉ S) : w'.cell? p = w.cell? p := World.cell?_of_block (w := w) (h.block p.block hp hn)
theorem Only.frozen (h : Only S w w') {p : Addr} (hp : p.block < w.heap.size) (hn : p.block ∉ S) : w'.frozen? p = w.frozen? p := World.frozen?_of_block (w := w) (h.block p.block hp hn)

theorem Blk.of_eq (h : w.heap[g]? = some (.cells cs t (0, 0))) : Blk w g t cs := ⟨0, 0, h, .inl rfl⟩
theorem Blk.of_same (h : Blk w g t cs) (e : w'.heap[g]? = w.heap[g]?) : Blk w' g t cs := by
 obtain ⟨lo, hi, h1, h2⟩ := h
 exact ⟨lo, hi, e.trans h1, h2⟩
theorem Blk.lt (h : Blk w g t cs) : g < w.heap.size := by
 obtain ⟨lo, hi, h, _⟩ := h
 rcases Nat.lt_or_ge g w.heap.size with hlt | hge
 ·exact hlt
 ·rw [Array.getElem?_eq_none hge] at h; cases h
theorem Blk.cell (h : Blk w g t cs) (i : Nat) : w.cell? ⟨g, i, none⟩ = cs[i]? := by
 obtain ⟨lo, hi, h, _⟩ := h
 exact cell_of_row w g i cs t (lo, hi) h
theorem Blk.cell_some (h : Blk w g t cs) {i : Nat} {v : Value} (hv : cs[i]? = some v) : w.cell? ⟨g, i, none⟩ = some v := (h.cell i).trans hv
theorem Blk.frozen (h : Blk w g t cs) (i : Nat) (hi : i < cs.size) : w.frozen? ⟨g, i, none⟩ = false := by
 obtain ⟨lo, hi', h, h2⟩ := h
 simp only [World.frozen?, h]
 rcases h2 with rfl | h2
 ·simp
 ·simp; omega
theorem Blk.new (w : World) (t : TypeId) (cs : Array Value) : Blk (w.alloc (.cells cs t)) w.heap.size t cs := .of_eq (heap_alloc_new w _)
theorem Blk.drew (h : Blk w g t cs) : Blk w.drew g t cs := h
theorem Blk.drewN (h : Blk w g t cs) (n : Nat) : Blk (w.drewN n) g t cs := h
theorem Blk.alloc (h : Blk w g t cs) (o : Obj) : Blk (w.alloc o) g t cs := h.of_same (Below.heap_alloc w o g h.lt)
theorem Blk.set_ (h : Blk w g t cs) (i : Nat) (u : Value) : Blk (w.setCell ⟨g, i, none⟩ u) g t (cs.setIfInBounds i u) := by
 obtain ⟨lo, hi, h, h2⟩ := h
 exact ⟨lo, hi, by simp [World.setCell, Array.getElem?_modify, h], by simpa using h2⟩
theorem Blk.far (h : Blk w g t cs) {p : Addr} (hp : g ≠ p.block) (u : Value) : Blk (w.setCell p u) g t cs := h.of_same (Below.heap_setCell w p u g hp)
theorem Blk.below {B : Nat} (h : Blk w g t cs) (hb : Below B w w') (hg : g < B) : Blk w' g t cs := h.of_same (hb.block g hg)
theorem Blk.only (h : Blk w g t cs) (hb : Only S w w') (hg : g ∉ S) : Blk w' g t cs := h.of_same (hb.block g h.lt hg)
theorem Blk.grown {row : Option Nat} (h : Blk w g t cs) (hb : w.grownBy w' row) (hg : some g ≠ row) : Blk w' g t cs := h.of_same (hb.block g h.lt hg)
theorem Blk.inj {t' : TypeId} {cs' : Array Value} (h : Blk w g t cs) (h' : Blk w g t' cs') : t = t' ∧ cs = cs' := by
 obtain ⟨lo, hi, h, _⟩ := h
 obtain ⟨lo', hi', h', _⟩ := h'
 rw [h] at h'
 injection h' with h'
 injection h' with e1 e2
 exact ⟨e2, e1⟩
theorem Blk.ne_ {g' : Nat} {t' : TypeId} {cs' : Array Value} (h : Blk w g t cs) (h' : Blk w g' t' cs') (hne : t ≠ t') : g ≠ g' := by
 rintro rfl
 exact hne (h.inj h').1
end

theorem Below_drewN {B : Nat} {w w' : World} (h : Below B w w') (n : Nat) : Below B w (w'.drewN n) := ⟨h.os, h.tape, h.output, h.size, h.block⟩
theorem bytes_toList (s : ByteArray) : s.toList = s.data.toList := ByteArray.toList_eq s

/-- '+' on strings, as lists -/
theorem string_append_list (l : List UInt8) (s : ByteArray) : (⟨l.toArray⟩ ++ s : ByteArray) = ⟨(l ++ s.data.toList).toArray⟩ := by
 apply ByteArray.ext
 rw [ByteArray.data_append]
 simp

theorem bstep {w a b : World} (h : Below w.heap.size w a) (k : Below a.heap.size a b) : Below w.heap.size w b := h.trans (k.mono h.size)

theorem block_of_add (a : Addr) (n : Nat) : (a.add n).block = a.block := by unfold Addr.add; split <;> rfl
theorem add_of_add (a : Addr) (i j : Nat) : (a.add i).add j = a.add (i + j) := by
 unfold Addr.add
 by_cases hi : i = 0 <;> by_cases hj : j = 0 <;> simp [hi, hj, Nat.add_assoc]
theorem cell_lt' {w : World} {a : Addr} {v : Value} (h : w.cell? a = some v) : a.block < w.heap.size := by
 rcases Nat.lt_or_ge a.block w.heap.size with hlt | hge
 ·exact hlt
 ·simp [World.cell?, Array.getElem?_eq_none hge] at h
theorem cell_lt {w : World} {a : Addr} {k : Nat} {v : Value} (h : w.cell? (a.add k) = some v) : a.block < w.heap.size := by
 rcases Nat.lt_or_ge a.block w.heap.size with hlt | hge
 ·exact hlt
 ·simp [World.cell?, block_of_add, Array.getElem?_eq_none hge] at h

/-! bytes -/
/-- a byte as a value -/
def bv (b : UInt8) : Value := .int .u8 (b.toNat : Int)
/-- bytes as values -/
def bvs (l : List UInt8) : List Value := l.map bv
@[simp] theorem bvs_length (l : List UInt8) : (bvs l).length = l.length := by simp [bvs]
theorem bvs_append (l m : List UInt8) : bvs (l ++ m) = bvs l ++ bvs m := by simp [bvs]
theorem bvs_get (l : List UInt8) (i : Nat) : (bvs l)[i]? = l[i]?.map bv := by simp [bvs]
theorem bvs_one (l : List UInt8) : ∀ v ∈ bvs l, v.oneCell' = true := by
 intro v hv
 obtain ⟨b, _, rfl⟩ := List.mem_map.1 hv
 rfl

theorem foldl_push (l : List UInt8) : ∀ s : ByteArray, (l.map fun b => (b.toNat : Int)).foldl (fun r n => r.push (UInt8.ofNat n.toNat)) s = ⟨(s.data.toList ++ l).toArray⟩ := by
 induction l with
 | nil => intro s; cases s; simp
 | cons b l ih =>
  intro s
  simp only [List.map_cons, List.foldl_cons]
  rw [ih]
  congr 1
  simp [ByteArray.push]

/-- string(b): the bytes that lie there -/
theorem run_string_of {P : Program} (w : World) (src dst e : TypeId) (hs : P.underlying src = some (.slice e)) (he : P.underlying e = some (.int .u8)) (hd : P.underlying dst = some .string)
  (a : Addr) (len cap : Nat) (l : List UInt8) (hl : l.length = len) (hc : ∀ j v, (bvs l)[j]? = some v → w.cell? (a.add j) = some v) :
  (convert src dst (.slice (some a) len cap)).run P w = .ok (.string ⟨l.toArray⟩) w := by
 subst hl
 rw [run_convert_bytes_string w src dst e (some a) l.length cap hs he hd]
 have h := run_loadCells_list (P := P) w a (bvs l) hc
 rw [bvs_length] at h
 have e2 : bvs l = (l.map fun b => (b.toNat : Int)).map (Value.int .u8) := by simp [bvs, bv]
 rw [e2] at h
 rw [run_bytesToString w a l.length cap _ h, foldl_push]
 simp

/-- cells written into a row from o on -/
def putAt (cur : List Value) (o : Nat) (cs : List Value) : List Value := cur.take o ++ cs ++ cur.drop (o + cs.length)
theorem putAt_nil (cur : List Value) (o : Nat) : putAt cur o [] = cur := by simp [putAt]
theorem putAt_length {cur : List Value} {o : Nat} {cs : List Value} (h : o + cs.length ≤ cur.length) : (putAt cur o cs).length = cur.length := by
 simp [putAt]; omega
theorem madeCells_one (z : Value) (n : Nat) : madeCells #[z] n = (List.replicate n z).toArray := by
 apply Array.ext
 ·simp [size_madeCells]
 ·intro i h1 h2
  simp [madeCells, Nat.mod_one]

theorem putAt_cons {cur : List Value} {o : Nat} {v : Value} {cs : List Value} (h : o < cur.length) : putAt (cur.set o v) (o + 1) cs = putAt cur o (v :: cs) := by
 unfold putAt
 rw [List.length_cons, List.take_succ_eq_append_getElem (by simpa using h), List.take_set_of_le (Nat.le_refl _), List.getElem_set_self, List.drop_set_of_lt (by omega)]
 simp [Nat.add_assoc, Nat.add_comm 1]
theorem Blk.setCells {g : Nat} {t : TypeId} : ∀ (cs : List Value) {w : World} {cur : List Value} (o : Nat), Blk w g t cur.toArray → o + cs.length ≤ cur.length → Blk (w.setCells g o cs) g t (putAt cur o cs).toArray
 | [], w, cur, o, h, _ => by rw [putAt_nil]; exact h
 | v :: cs, w, cur, o, h, hl => by
  simp only [List.length_cons] at hl
  have h1 := h.set_ o v
  rw [List.setIfInBounds_toArray] at h1
  have h2 := Blk.setCells cs (o + 1) h1 (by rw [List.length_set]; omega)
  rw [putAt_cons (by omega)] at h2
  exact h2
theorem Only.setCells {S : List Nat} {w : World} {g : Nat} : ∀ (cs : List Value) {w' : World} (o : Nat), Only S w w' → (g < w.heap.size → g ∈ S) → Only S w (w'.setCells g o cs)
 | [], _, _, h, _ => h
 | v :: cs, _, o, h, hg => Only.setCells cs (o + 1) (h.setCell (p := ⟨g, o, none⟩) hg v) hg

/-- copy(d, s): s a slice whose cells are known, d in a block known whole -/
theorem copy_cells {P : Program} {w : World} {g : Nat} {t : TypeId} {cur : List Value} (B : Blk w g t cur.toArray) (dT sT ty elem : TypeId) (o dLen dCap : Nat) (a : Addr) (sLen sCap : Nat) (cs : List Value)
  (hu : P.underlying dT = some (.slice elem)) (hs : (P.info? elem).map (·.size) = some 1) (hn : cs.length = Nat.min sLen dLen)
  (hsrc : ∀ j v, cs[j]? = some v → w.cell? (a.add j) = some v) (hfit : o + cs.length ≤ cur.length) (h1 : ∀ v ∈ cs, v.oneCell' = true) :
  ∃ w', (Builtin.copy_ #[dT, sT] ty #[.slice (some ⟨g, o, none⟩) dLen dCap, .slice (some a) sLen sCap]).run P w = .ok (goInt cs.length) w' ∧ Blk w' g t (putAt cur o cs).toArray ∧ Only [g] w w' :=
 ⟨_, run_copy_cells (P := P) w dT sT ty elem g o dLen dCap a sLen sCap cs hu hs hn hsrc (fun j hj => by rw [B.cell]; simp; omega) (fun j hj => B.frozen _ (by simp; omega)) h1,
  B.setCells cs o hfit, (Only.refl _ _).setCells cs o (by simp)⟩
/-- copy(d, s): s a string -/
theorem copy_string {P : Program} {w : World} {g : Nat} {t : TypeId} {cur : List Value} (B : Blk w g t cur.toArray) (dT sT ty elem : TypeId) (o dLen dCap : Nat) (s : ByteArray) (n : Nat)
  (hu : P.underlying dT = some (.slice elem)) (hs : (P.info? elem).map (·.size) = some 1) (hn : n = Nat.min s.size dLen) (hfit : o + n ≤ cur.length) :
  ∃ w', (Builtin.copy_ #[dT, sT] ty #[.slice (some ⟨g, o, none⟩) dLen dCap, .string s]).run P w = .ok (goInt n) w' ∧ Blk w' g t (putAt cur o (bvs (s.data.toList.take n))).toArray ∧ Only [g] w w' := by
 have hl : (bvs (s.data.toList.take n)).length = n := by
  have : n ≤ s.size := by rw [hn]; exact Nat.min_le_left _ _
  simp; omega
 refine ⟨w.setCells g o (bvs (s.data.toList.take n)), ?_, B.setCells _ o (by omega), (Only.refl _ _).setCells _ o (by simp)⟩
 have hst := run_storeCells_cells (P := P) g o (bvs (s.data.toList.take n)) 0 w (fun j hj => by rw [B.cell]; simp; omega) (fun j hj => B.frozen _ (by simp; omega)) (bvs_one _)
 have e : List.take n (List.map (fun b : UInt8 => Value.int .u8 (b.toNat : Int)) s.data.toList) = bvs (s.data.toList.take n) := by
  rw [bvs, List.map_take]; rfl
 cases hq : P.info? elem with
 | none => simp [hq] at hs
 | some i =>
  simp only [Nat.add_zero] at hst
  simp [Builtin.copy_, run_underlying hu, Builtin.lenOf, Builtin.firstCells, sizeOf, typeInfo, hq, ← hn]
  rw [e, hst]
  simp [Result.andThen]
theorem cells_at {w : World} {g : Nat} {t : TypeId} {l : List Value} (B : Blk w g t l.toArray) (o : Nat) (cs : List Value) (h : ∀ j v, cs[j]? = some v → l[o + j]? = some v) :
  ∀ j v, cs[j]? = some v → w.cell? ((⟨g, o, none⟩ : Addr).add j) = some v := by
 intro j v hv
 have e : (⟨g, o, none⟩ : Addr).add j = ⟨g, o + j, none⟩ := by unfold Addr.add; split <;> simp_all
 rw [e, B.cell]
 simpa using h j v hv

/-! slices of the call's own -/
/-- the slice value v has n elements of type e (size cells each), just the cells l, at the head of a block known whole -/
def Slc (w : World) (e : TypeId) (size : Nat) (v : Value) (n : Nat) (l : List Value) : Prop :=
 l.length = n * size ∧ ((v = .slice none 0 0 ∧ n = 0) ∨
  ∃ g cap rest, v = .slice (some ⟨g, 0, none⟩) n cap ∧ Blk w g e (l ++ rest).toArray ∧ l.length + rest.length = cap * size ∧ cap ≤ maxLen)
/-- the block of a slice -/
def ownB : Value → List Nat
 | .slice (some a) _ _ => [a.block]
 | _ => []
section
variable {w w' : World} {e : TypeId} {size : Nat} {v : Value} {n : Nat} {l : List Value} {S : List Nat}
theorem Slc.nil (w : World) (e : TypeId) (size : Nat) : Slc w e size (.slice none 0 0) 0 [] := ⟨by simp, .inl ⟨rfl, rfl⟩⟩
theorem Slc.only (h : Slc w e size v n l) (ho : Only S w w') (hd : ∀ g ∈ ownB v, g ∉ S) : Slc w' e size v n l := by
 refine ⟨h.1, h.2.imp id ?_⟩
 rintro ⟨g, cap, rest, rfl, B, hc, hm⟩
 exact ⟨g, cap, rest, rfl, B.only ho (hd g (by simp [ownB])), hc, hm⟩
theorem Slc.below (h : Slc w e size v n l) (hb : Below w.heap.size w w') : Slc w' e size v n l := h.only (S := []) (.of_below hb) (by simp)
theorem Slc.drew (h : Slc w e size v n l) : Slc w.drew e size v n l := h
theorem Slc.drewN (h : Slc w e size v n l) (k : Nat) : Slc (w.drewN k) e size v n l := h
theorem Slc.alloc (h : Slc w e size v n l) (o : Obj) : Slc (w.alloc o) e size v n l := h.only (S := []) ((Only.refl _ _).alloc o) (by simp)
theorem Slc.lt (h : Slc w e size v n l) : ∀ g ∈ ownB v, g < w.heap.size := by
 rcases h.2 with ⟨rfl, _⟩ | ⟨g, cap, rest, rfl, B, _⟩
 ·simp [ownB]
 ·intro x hx; simp [ownB] at hx; subst hx; exact B.lt
theorem Slc.of_own {base : Nat} (h : w.ownsRow base e size v n l) : Slc w e size v n l := by
 refine ⟨h.1, h.2.imp id ?_⟩
 rintro ⟨g, cap, cur, rfl, _, hh, hnc, hm, hs, ht⟩
 have hsz : cur.toList.length = cap * size := by simpa using hs
 refine ⟨g, cap, cur.toList.drop (n * size), rfl, ?_, ?_, hm⟩
 ·rw [← ht, List.take_append_drop]; exact .of_eq hh
 ·rw [h.1, List.length_drop, hsz]
  have : n * size ≤ cap * size := Nat.mul_le_mul_right _ hnc
  omega
/-- the shape, where there is an element -/
theorem Slc.form (h : Slc w e size v n l) (hn : 0 < n) (hs : 0 < size) : ∃ g cap rest, v = .slice (some ⟨g, 0, none⟩) n cap ∧ Blk w g e (l ++ rest).toArray ∧ n ≤ cap ∧ l.length + rest.length = cap * size := by
 rcases h.2 with ⟨_, h0⟩ | ⟨g, cap, rest, rfl, B, hc, _⟩
 ·omega
 ·refine ⟨g, cap, rest, rfl, B, ?_, hc⟩
  have h1 := h.1
  have : n * size ≤ cap * size := by omega
  exact Nat.le_of_mul_le_mul_right this hs
theorem Slc.blk {g n' cap : Nat} (h : Slc w e size (.slice (some ⟨g, 0, none⟩) n' cap) n l) : ∃ rest, Blk w g e (l ++ rest).toArray ∧ l.length + rest.length = cap * size ∧ n' = n ∧ cap ≤ maxLen := by
 rcases h.2 with ⟨h0, _⟩ | ⟨g', cap', rest, hv, B, hc, hm⟩
 ·simp at h0
 ·simp only [Value.slice.injEq, Option.some.injEq, Addr.mk.injEq, and_true] at hv
  obtain ⟨rfl, rfl, rfl⟩ := hv
  exact ⟨rest, B, hc, rfl, hm⟩
end
/-- append(v, xs...) -/
theorem append_slc {P : Program} {w : World} {e : TypeId} {size : Nat} {v : Value} {n : Nat} {l : List Value} (h : Slc w e size v n l)
  (t ty : TypeId) (i : TypeInfo) (z : Value) (bytes : Nat) (ht : P.underlying t = some (.slice e)) (hi : P.info? e = some i) (hz : i.zero = some z)
  (hsize : i.size = size) (hby : i.bytes = bytes) (hzs : z.cells.size = size) (hsz : 0 < size)
  (a : Addr) (m c : Nat) (news : List Value) (hl : news.length = m * size) (hnews : ∀ j u, news[j]? = some u → w.cell? (a.add j) = some u) (h1 : ∀ u ∈ news, u.oneCell' = true)
  (h63 : n + m ≤ maxLen) (hbytes : (n + m) * bytes ≤ 140737488355328) :
  ∃ v' w', (Builtin.append_ #[t, t] ty #[v, .slice (some a) m c]).run P w = .ok v' w' ∧ Slc w' e size v' (n + m) (l ++ news) ∧ Only (ownB v) w w' ∧ (∀ g ∈ ownB v', g ∈ ownB v ∨ w.heap.size ≤ g) := by
 rcases h.2 with ⟨rfl, rfl⟩ | ⟨g, cap, rest, rfl, B, hc, hm⟩
 ·have hnil : l = [] := List.eq_nil_of_length_eq_zero (by simpa using h.1)
  subst hnil
  obtain ⟨v', w', hr, h2, h3, _⟩ := run_append_own (P := P) w w.heap.size t ty e i z size bytes ht hi hz hsize hby hzs hsz (.slice none 0 0) 0 [] (World.ownsRow_nil _ _ _ _) a m c news hl hnews h1 h63 hbytes (Nat.le_refl _)
  refine ⟨v', w', hr, .of_own h2, (Only.refl _ _).grown h3 (by simp [Value.ownBlock]), ?_⟩
  intro g hg
  rcases h2.2 with ⟨rfl, _⟩ | ⟨g', cap, cur, rfl, hb, _⟩
  ·simp [ownB] at hg
  ·simp [ownB] at hg; subst hg; exact .inr hb
 ·by_cases hr : n + m ≤ cap
  ·subst hsize
   have hmul : (n + m) * i.size ≤ cap * i.size := Nat.mul_le_mul_right _ hr
   rw [Nat.add_mul] at hmul
   have hh := h.1
   have hrun := run_append_room_cells (P := P) w t ty e i ht hi g 0 n cap a m c news hl hnews h1 hr (fun j hj => by rw [B.cell]; simp; omega) (fun j hj => B.frozen _ (by simp; omega))
   refine ⟨_, _, hrun, ⟨by simp [hh, hl, Nat.add_mul], .inr ⟨g, cap, rest.drop news.length, rfl, ?_, by simp; omega, hm⟩⟩, (Only.refl _ _).setCells news _ (by simp [ownB]), by simp [ownB]⟩
   have B2 := B.setCells news (0 + n * i.size) (by simp; omega)
   have e2 : putAt (l ++ rest) (0 + n * i.size) news = l ++ news ++ rest.drop news.length := by
    unfold putAt
    rw [Nat.zero_add, ← hh, List.take_left, ← List.drop_drop, List.drop_left]
   rwa [e2] at B2
  ·obtain ⟨v', w', hrun, h2, h3⟩ := run_append_arg_grows (P := P) w t ty e i z size bytes ht hi hz hsize hby hzs hsz ⟨g, 0, none⟩ n cap l h.1 (cells_at B 0 l (by intro j u hu; rw [Nat.zero_add]; exact List.getElem?_append_left (List.getElem?_eq_some_iff.1 hu).1 ▸ hu)) a m c news hl hnews (by omega) h63 hbytes
   refine ⟨v', w', hrun, .of_own h2, (Only.refl _ _).grown h3 (by simp), ?_⟩
   intro g' hg
   rcases h2.2 with ⟨rfl, _⟩ | ⟨g'', cap', cur, rfl, hb, _⟩
   ·simp [ownB] at hg
   ·simp [ownB] at hg; subst hg; exact .inr hb
/-- an append whose run is known: an arm of the walk: '(at_builtin; refine wpList_append_run rfl _ _ _ rfl _ _ rfl rfl RUN ?_)' -/
theorem wpList_append_run {P : Program} {w : World} {ops : Array Oper} {rest : List Oper} {o : Oper} {a : Act} {Q : Exit → Act → World → Prop} (hgd : o.guard = none) (s x : Operand) (t : TypeId)
  (ho : o.op = .call { callee := .builtin .append, args := #[s, x], argTypes := #[t, t] }) (v xv : Value) (hs : a.eval s = v) (hx : a.eval x = xv) {v' : Value} {w' : World}
  (hrun : (Builtin.append_ #[t, t] o.type #[v, xv]).run P w = .ok v' w') (h : wpList P ops Q rest (a.put o.dst v') w') : wpList P ops Q (o :: rest) a w := by
 refine wpList_plain hgd fun K hK => ?_
 unfold Oper.wp
 simp [execOp, ho, resolve, invoke, builtin, hs, hx, hrun, Result.andThen]
 exact hK _ _ h
/-- []byte(s) -/
theorem bytes_of_string {P : Program} (w : World) (src dst e : TypeId) (s : ByteArray) (hs : P.underlying src = some .string) (hd : P.underlying dst = some (.slice e)) (he : P.underlying e = some (.int .u8)) (hm : s.size ≤ maxLen) :
  ∃ cap w', (convert src dst (.string s)).run P w = .ok (.slice (some ⟨w.heap.size, 0, none⟩) s.size cap) w' ∧ Slc w' e 1 (.slice (some ⟨w.heap.size, 0, none⟩) s.size cap) s.size (bvs s.data.toList) ∧ Below w.heap.size w w' := by
 refine ⟨_, _, run_bytes_of_string (P := P) w src dst e s hs hd he, ⟨by simp, .inr ⟨w.heap.size, _, List.replicate (grownCap w s.size 0 e - s.size) (.int .u8 0), rfl, ?_, ?_, grownCap_le_maxLen _ _ _ _ hm⟩⟩, ?_⟩
 ·have e1 : bytesRow s (grownCap w s.size 0 e) = (bvs s.data.toList ++ List.replicate (grownCap w s.size 0 e - s.size) (Value.int .u8 0)).toArray := by
   apply Array.toList_inj.1
   simp [bytesRow, bvs]
   exact fun _ _ => rfl
  rw [e1]
  exact ⟨_, _, heap_alloc_new w.drew _, .inr (Nat.le_refl _)⟩
 ·have := grownCap_ge w s.size 0 e
  simp; omega
 ·exact ⟨rfl, rfl, rfl, by simp, fun k hk => Below.heap_alloc w.drew _ k hk⟩
/-- a []string that came in -/
theorem strs_view {H : Type} {enc : TypeId × Value → H} {P : Program} {W : World} {base : Nat} {t e : TypeId} {v : Value} {d : DataW H} {ps : List MemPlace} (ht : P.underlying t = some (.slice e)) (he : P.underlying e = some .string) (hc : P.cellsOf e = 1)
  (hok : Value.okWide P W .any base t v) (h : DataW.Trod enc P W 0 (fun _ => true) true t v d ps) :
  ∃ (A : Option Addr) (n c : Nat) (ss : Nat → ByteArray), v = .slice A n c ∧ n ≤ maxLen ∧ ∀ k, k < n → ∃ ad, A = some ad ∧ W.cell? (ad.add k) = some (.string (ss k)) ∧ (ss k).size ≤ maxLen := by
 obtain ⟨a0, len, cap, rfl⟩ := Go.WideShapes.okWide_slice ht hok
 obtain ⟨fuel, hf⟩ := h
 rcases Go.ChangeShapes.open_strings ht he hc hf with ⟨hcs, _⟩ | ⟨a, len', cap', ss, hcs, _, hl, hm, hz, _, hcell, hws⟩
 ·simp [Value.cells] at hcs
  obtain ⟨rfl, rfl, rfl⟩ := hcs
  exact ⟨none, 0, 0, fun _ => ByteArray.empty, rfl, Nat.zero_le _, fun k hk => absurd hk (by omega)⟩
 ·simp [Value.cells] at hcs
  obtain ⟨rfl, rfl, rfl⟩ := hcs
  simp at hz
  refine ⟨some a, len, cap, fun k => ss.getD k ByteArray.empty, rfl, by omega, fun k hk => ⟨a, rfl, hcell k (by omega), ?_⟩⟩
  have hk2 : k < ss.length := by omega
  have : ss.getD k ByteArray.empty = ss[k] := by simp [List.getD, List.getElem?_eq_getElem hk2]
  show (ss.getD k ByteArray.empty).size ≤ maxLen
  rw [this]
  exact hws _ (List.getElem_mem hk2)
end Go.Proofs.YtbelcgjbhpjnpaaGreat

/- more words: append kept from the walk's own steps; one element more. -/
namespace Go.Proofs.YtbelcgjbhpjnpaaGreat
open Go.RowKit
/-- an append's run, under a name: the walk's simp does not open it; lay 'appRun .. = .ok v w'' -/
noncomputable def appRun (P : Program) (T ty : TypeId) (w : World) (s x : Value) : Result Value := (Builtin.append_ #[T, T] ty #[s, x]).run P w
theorem exec_app (P : Program) (ρ : Operand → Value) (dst : Option Tmp) (s x : Operand) (T t : TypeId) (p : String) (af : Array Edge) (g : Option (Nat × Bool)) (w : World) :
  (execOp ρ { dst := dst, op := .call { callee := .builtin .append, args := #[s, x], argTypes := #[T, T] }, type := t, pos := p, after := af, guard := g }).run P w = (appRun P T t w (ρ s) (ρ x)).andThen fun v w' => .ok (.value v) w' := by
 simp [execOp, resolve, invoke, builtin, appRun]
theorem append_one {P : Program} {w : World} {e : TypeId} {v : Value} {n : Nat} {l : List Value} (S : Slc w e 1 v n l)
  (T ty : TypeId) (z : Value) (bytes : Nat) (ht : P.underlying T = some (.slice e)) (hinfo : (P.info? e).map (fun i => (i.zero, i.size, i.bytes)) = some (some z, 1, bytes)) (hz : z.cells.size = 1)
  (x : Value) (hx : x.oneCell' = true) (h63 : n + 1 ≤ maxLen) (hb : (n + 1) * bytes ≤ 140737488355328) :
  ∃ v' w', appRun P T ty (w.alloc (.cells #[x] e)) v (.slice (some ⟨w.heap.size, 0, none⟩) 1 1) = .ok v' w' ∧ Slc w' e 1 v' (n + 1) (l ++ [x]) ∧ Only (ownB v) w w' ∧ (∀ g ∈ ownB v', g ∈ ownB v ∨ w.heap.size ≤ g) := by
 obtain ⟨i0, hi, hz0, hz1, hz2⟩ := info_parts hinfo
 obtain ⟨v', w', h1, h2, h3, h4⟩ := append_slc (P := P) (S.alloc (.cells #[x] e)) T ty i0 z bytes ht hi hz0 hz1 hz2 hz (by omega)
  ⟨w.heap.size, 0, none⟩ 1 1 [x] rfl (cells_at (l := [x]) (Blk.new w e #[x]) 0 _ (by simp)) (by intro u hu; simp at hu; subst hu; exact hx) h63 hb
 exact ⟨v', w', h1, h2, ((Only.refl _ _).alloc _).trans_of h3 (fun x hx _ => hx), fun g hg => (h4 g hg).imp id (fun h => by simp at h; omega)⟩
theorem slc_val {w : World} {e : TypeId} {size n : Nat} {v : Value} {l : List Value} (S : Slc w e size v n l) : ∃ A c, v = .slice A n c := by
 rcases S.2 with ⟨rfl, rfl⟩ | ⟨g, cap, rest, rfl, _⟩
 ·exact ⟨none, 0, rfl⟩
 ·exact ⟨_, cap, rfl⟩
end Go.Proofs.YtbelcgjbhpjnpaaGreat

/- more words: a slice appended to a slice; a string's extract. -/
namespace Go.Proofs.YtbelcgjbhpjnpaaGreat
open Go.RowKit
/-- the frame, one slot put -/
theorem pa {α : Type} (l : List α) (i : Nat) (a : α) : l.toArray.setIfInBounds i a = (l.set i a).toArray := by simp
theorem pb {α : Type} (a b : α) (l : List α) : (a :: l).set 0 b = b :: l := rfl
theorem pc {α : Type} (a b : α) (l : List α) (n : Nat) : (a :: l).set (n + 1) b = a :: l.set n b := rfl
/-- an operation of a drawn region is taken first -/
theorem tkf {P : Program} {ops : Array Oper} {Q : Exit → Act → World → Prop} {md : Region.Mode} {S : World → Prop} {i : Nat} {oi : Oper} {v : Value} {fuel : Nat} {listed : Array Bool} {a : Act} {w : World} (hi : ops[i]? = some oi)
  (hb : (Region.noSelect ops && (Region.free md ops listed i && ((Region.ready md ops listed).contains i && Region.wanted oi (yielded ops a.tmps)))) = true)
  (hQ : ∀ c a w, Q (.panic c) (a.put oi.dst v) w → Q (.panic c) a w) (hS : S w) (y : ∀ w, S w → (execOp a.eval oi).run P w = .ok (.value v) w)
  (h : wpAnyH P md ops Q S fuel (listed.setIfInBounds i true) (a.put oi.dst v) w) : wpAnyH P md ops Q S (fuel + 1) listed a w := by
 simp only [Bool.and_eq_true] at hb
 exact wpAnyH_take hi hb.1 hb.2.1 hb.2.2.1 hQ (Or.inl ⟨hb.2.2.2, y⟩) hS h
/-- which operations of a drawn region are to be taken next, and their slots -/
def Zpl (_ : List (Nat × Nat)) (g : Prop) : Prop := g
theorem zpl (l : List (Nat × Nat)) {g : Prop} (h : Zpl l g) : g := h
theorem zpe {g : Prop} (h : g) : Zpl [] g := h
/-- the next one of them is taken -/
theorem ztp {P : Program} {ops : Array Oper} {Q : Exit → Act → World → Prop} {md : Region.Mode} {S : World → Prop} {l : List (Nat × Nat)} {i d : Nat} {x1 x2 x3 x4 x5} {v : Value} {fuel : Nat} {listed : Array Bool} {a : Act} {w : World} (hi : ops[i]? = some ⟨some d, x1, x2, x3, x4, x5⟩)
  (hb : (Region.noSelect ops && (Region.free md ops listed i && ((Region.ready md ops listed).contains i && Region.wanted ⟨some d, x1, x2, x3, x4, x5⟩ (yielded ops a.tmps)))) = true)
  (hQ : ∀ c a w, Q (.panic c) (a.put (some d) v) w → Q (.panic c) a w) (hS : S w) (y : ∀ w, S w → (execOp a.eval ⟨some d, x1, x2, x3, x4, x5⟩).run P w = .ok (.value v) w)
  (h : Zpl l (wpAnyH P md ops Q S fuel (listed.setIfInBounds i true) (a.put (some d) v) w)) : Zpl ((i, d) :: l) (wpAnyH P md ops Q S (fuel + 1) listed a w) := tkf hi hb hQ hS y h
/-- an operation that its guard leaves out -/
theorem tks {P : Program} {ops : Array Oper} {Q : Exit → Act → World → Prop} {md : Region.Mode} {S : World → Prop} {i : Nat} {oi : Oper} {fuel : Nat} {listed : Array Bool} {a : Act} {w : World} (hi : ops[i]? = some oi)
  (hb : (Region.noSelect ops && (Region.free md ops listed i && ((Region.ready md ops listed).contains i && !(Region.wanted oi (yielded ops a.tmps))))) = true)
  (hQ : ∀ c a w, Q (.panic c) (a.put oi.dst undef) w → Q (.panic c) a w) (hS : S w)
  (h : wpAnyH P md ops Q S fuel (listed.setIfInBounds i true) (a.put oi.dst undef) w) : wpAnyH P md ops Q S (fuel + 1) listed a w := by
 simp only [Bool.and_eq_true, Bool.not_eq_true'] at hb
 exact wpAnyH_take hi hb.1 hb.2.1 hb.2.2.1 hQ (Or.inr ⟨hb.2.2.2, rfl⟩) hS h
/-- append(v, x...), x a slice that is known whole, or nil -/
theorem append_slcs {P : Program} {w : World} {e : TypeId} {size : Nat} {v x : Value} {n m : Nat} {l lx : List Value} (h : Slc w e size v n l) (hx : Slc w e size x m lx)
  (T ty : TypeId) (z : Value) (bytes : Nat) (ht : P.underlying T = some (.slice e)) (hinfo : (P.info? e).map (fun i => (i.zero, i.size, i.bytes)) = some (some z, size, bytes)) (hz : z.cells.size = size) (hs : 0 < size)
  (h1 : ∀ u ∈ lx, u.oneCell' = true) (h63 : n + m ≤ maxLen) (hb : (n + m) * bytes ≤ 140737488355328) :
  ∃ v' w', appRun P T ty w v x = .ok v' w' ∧ Slc w' e size v' (n + m) (l ++ lx) ∧ Only (ownB v) w w' ∧ (∀ g ∈ ownB v', g ∈ ownB v ∨ w.heap.size ≤ g) := by
 obtain ⟨i0, hi, hz0, hz1, hz2⟩ := info_parts hinfo
 have hxl := hx.1
 rcases hx.2 with ⟨rfl, rfl⟩ | ⟨g, cap, rest, rfl, B, hc, hm⟩
 ·have hnil : lx = [] := List.eq_nil_of_length_eq_zero (by simpa using hxl)
  subst hnil
  refine ⟨v, w, ?_, by simpa using h, Only.refl _ _, fun x hx => .inl hx⟩
  unfold appRun
  rcases h.2 with ⟨rfl, h0⟩ | ⟨g, cap, rest, rfl, BB, hc, hm⟩
  ·simp [Builtin.append_, run_underlying ht, sizeOf, typeInfo, hi, Builtin.lenOf, Builtin.firstCells]
  ·have hl := h.1
   have hnc : n ≤ cap := by
    have : n * size ≤ cap * size := by omega
    exact Nat.le_of_mul_le_mul_right this hs
   simp [Builtin.append_, run_underlying ht, sizeOf, typeInfo, hi, Builtin.lenOf, Builtin.firstCells, hnc, storeCells]
 ·obtain ⟨v', w', e1, h2, h3, h4⟩ := append_slc (P := P) h T ty i0 z bytes ht hi hz0 hz1 hz2 hz hs ⟨g, 0, none⟩ m cap lx hxl (cells_at B 0 lx (by intro j u hu; rw [Nat.zero_add]; exact List.getElem?_append_left (List.getElem?_eq_some_iff.1 hu).1 ▸ hu)) h1 h63 hb
  exact ⟨v', w', e1, h2, h3, h4⟩
/-- a new slice of the cells of a literal -/
theorem slc_lit (w : World) (e : TypeId) (l : List Value) (h : l.length ≤ maxLen) : Slc (w.alloc (.cells l.toArray e)) e 1 (.slice (some ⟨w.heap.size, 0, none⟩) l.length l.length) l.length l :=
 ⟨by simp, .inr ⟨w.heap.size, l.length, [], rfl, by rw [List.append_nil]; exact Blk.new w e l.toArray, by simp, h⟩⟩
theorem exl' (u : ByteArray) (a b : Nat) : (u.extract a b).data.toList = (u.data.toList.drop a).take (b - a) := by
 rw [ByteArray.data_extract, Array.toList_extract, List.extract_eq_take_drop]
theorem quietS {P : Program} {f : FuncId} {args : Array Value} {w : World} {n : Nat} {v : Value} (h : Calls P f args (w.drewN n) fun e w' => e = .returned v ∧ w.drewN n = w') : Calls P f args (w.drewN n) fun e w'' => e = .returned v ∧ ∃ m, w'' = w.drewN m := h.mono fun _ _ ⟨he, hm⟩ => ⟨he, n, hm.symm⟩
/-- string(v), v a slice known whole, nil or not -/
theorem str_slc {P : Program} {w : World} {v : Value} {n : Nat} {l : List UInt8} {e : TypeId} (S : Slc w e 1 v n (bvs l)) (src dst : TypeId) (hs : P.underlying src = some (.slice e)) (he : P.underlying e = some (.int .u8)) (hd : P.underlying dst = some .string) :
  (convert src dst v).run P w = .ok (.string ⟨l.toArray⟩) w := by
 have hl := S.1
 rcases S.2 with ⟨rfl, rfl⟩ | ⟨g, cap, rest, rfl, B, hc, _⟩
 ·have hnil : l = [] := List.eq_nil_of_length_eq_zero (by simpa using hl)
  subst hnil
  rw [run_convert_bytes_string w src dst e none 0 0 hs he hd]
  rfl
 ·exact run_string_of (P := P) w src dst e hs he hd ⟨g, 0, none⟩ n cap l (by simpa using hl) (cells_at B 0 _ (by intro j u hu; rw [Nat.zero_add]; exact List.getElem?_append_left (List.getElem?_eq_some_iff.1 hu).1 ▸ hu))
end Go.Proofs.YtbelcgjbhpjnpaaGreat

/- more words: a slice of the call's own that may have no room (nil, or cut to nothing: it owns no block then). -/
namespace Go.Proofs.YtbelcgjbhpjnpaaGreat
open Go.RowKit
/-- the block that a slice with room owns -/
def ownS : Value → List Nat
 | .slice (some a) _ c => if c = 0 then [] else [a.block]
 | _ => []
/-- v has just the n one-cell elements l of type e; where it has room it owns its block -/
def Sl (w : World) (e : TypeId) (v : Value) (n : Nat) (l : List Value) : Prop :=
 l.length = n ∧ ((∃ A, v = .slice A 0 0 ∧ n = 0) ∨
  ∃ g cap rest, v = .slice (some ⟨g, 0, none⟩) n cap ∧ 0 < cap ∧ Blk w g e (l ++ rest).toArray ∧ l.length + rest.length = cap ∧ cap ≤ maxLen)
section
variable {w w' : World} {e : TypeId} {v : Value} {n : Nat} {l : List Value} {S : List Nat}
theorem Sl.nil (w : World) (e : TypeId) : Sl w e (.slice none 0 0) 0 [] := ⟨rfl, .inl ⟨none, rfl, rfl⟩⟩
theorem Sl.of_slc (h : Slc w e 1 v n l) : Sl w e v n l := by
 have hl := h.1
 refine ⟨by omega, ?_⟩
 rcases h.2 with ⟨rfl, rfl⟩ | ⟨g, cap, rest, rfl, B, hc, hm⟩
 ·exact .inl ⟨none, rfl, rfl⟩
 ·by_cases h0 : cap = 0
  ·subst h0
   have : n = 0 := by omega
   subst this
   exact .inl ⟨_, rfl, rfl⟩
  ·exact .inr ⟨g, cap, rest, rfl, by omega, B, by omega, hm⟩
theorem Sl.only (h : Sl w e v n l) (ho : Only S w w') (hd : ∀ g ∈ ownS v, g ∉ S) : Sl w' e v n l := by
 refine ⟨h.1, h.2.imp id ?_⟩
 rintro ⟨g, cap, rest, rfl, h0, B, hc, hm⟩
 exact ⟨g, cap, rest, rfl, h0, B.only ho (hd g (by simp [ownS]; omega)), hc, hm⟩
theorem Sl.below (h : Sl w e v n l) (hb : Below w.heap.size w w') : Sl w' e v n l := h.only (S := []) (.of_below hb) (by simp)
theorem Sl.drew (h : Sl w e v n l) : Sl w.drew e v n l := h
theorem Sl.drewN (h : Sl w e v n l) (k : Nat) : Sl (w.drewN k) e v n l := h
theorem Sl.alloc (h : Sl w e v n l) (o : Obj) : Sl (w.alloc o) e v n l := h.only (S := []) ((Only.refl _ _).alloc o) (by simp)
theorem Sl.lt (h : Sl w e v n l) : ∀ g ∈ ownS v, g < w.heap.size := by
 rcases h.2 with ⟨A, rfl, _⟩ | ⟨g, cap, rest, rfl, h0, B, _⟩
 ·cases A <;> simp [ownS]
 ·intro x hx; simp [ownS] at hx; rw [hx.2]; exact B.lt
theorem Sl.val (h : Sl w e v n l) : ∃ A c, v = .slice A n c ∧ n ≤ c := by
 rcases h.2 with ⟨A, rfl, rfl⟩ | ⟨g, cap, rest, rfl, _, _, hc, _⟩
 ·exact ⟨A, 0, rfl, Nat.le_refl _⟩
 ·exact ⟨_, cap, rfl, by have := h.1; omega⟩
/-- the shape, where there is an element -/
theorem Sl.form (h : Sl w e v n l) (hn : 0 < n) : ∃ g cap rest, v = .slice (some ⟨g, 0, none⟩) n cap ∧ Blk w g e (l ++ rest).toArray ∧ n ≤ cap ∧ l.length + rest.length = cap := by
 rcases h.2 with ⟨_, _, h0⟩ | ⟨g, cap, rest, rfl, _, B, hc, _⟩
 ·omega
 ·exact ⟨g, cap, rest, rfl, B, by have := h.1; omega, hc⟩
theorem Sl.ne_blk {t : TypeId} {b : Nat} {cs : Array Value} (h : Sl w e v n l) (B : Blk w b t cs) (hne : t ≠ e) : b ∉ ownS v := by
 rcases h.2 with ⟨A, rfl, _⟩ | ⟨g, cap, rest, rfl, h0, B2, _⟩
 ·cases A <;> simp [ownS]
 ·intro hb
  simp [ownS] at hb
  obtain ⟨_, rfl⟩ := hb
  exact B.ne_ B2 hne rfl
/-- an element stored -/
theorem Sl.set_ (h : Sl w e v n l) (k : Nat) (hk : k < n) (u : Value) : ∃ g c, v = .slice (some ⟨g, 0, none⟩) n c ∧ Sl (w.setCell ⟨g, k, none⟩ u) e v n (l.set k u) ∧ ownS v = [g] ∧ w.frozen? ⟨g, k, none⟩ = false ∧ Only [g] w (w.setCell ⟨g, k, none⟩ u) := by
 rcases h.2 with ⟨A, rfl, h0⟩ | ⟨g, cap, rest, rfl, h0, B, hc, hm⟩
 ·omega
 ·have hl := h.1
  refine ⟨g, cap, rfl, ⟨by rw [List.length_set]; exact hl, .inr ⟨g, cap, rest, rfl, h0, ?_, by rw [List.length_set]; exact hc, hm⟩⟩, by simp [ownS]; omega, B.frozen k (by simp; omega), (Only.refl _ _).setCell (by simp) _⟩
  have B2 := B.set_ k u
  rw [List.setIfInBounds_toArray, List.set_append_left _ _ (by omega)] at B2
  exact B2
/-- cut to its first k -/
theorem Sl.cut (h : Sl w e v n l) {A : Option Addr} {c : Nat} (hv : v = .slice A n c) (k : Nat) (hk : k ≤ n) : Sl w e (.slice A k c) k (l.take k) := by
 have hl := h.1
 refine ⟨by rw [List.length_take]; omega, ?_⟩
 rcases h.2 with ⟨A', h1, h0⟩ | ⟨g, cap, rest, h1, h0, B, hc, hm⟩
 ·rw [hv] at h1
  injection h1 with h1 h2 h3
  subst h3
  exact .inl ⟨A, by rw [show k = 0 by omega], by omega⟩
 ·rw [hv] at h1
  injection h1 with h1 h2 h3
  subst h1 h3
  exact .inr ⟨g, c, l.drop k ++ rest, rfl, h0, by rw [← List.append_assoc, List.take_append_drop]; exact B, by rw [List.length_take, List.length_append, List.length_drop]; omega, hm⟩
end
/-- append(v, x...), x any cells that lie at a place -/
theorem append_sl {P : Program} {w : World} {e : TypeId} {v : Value} {n : Nat} {l : List Value} (h : Sl w e v n l)
  (T ty : TypeId) (z : Value) (bytes : Nat) (ht : P.underlying T = some (.slice e)) (hinfo : (P.info? e).map (fun i => (i.zero, i.size, i.bytes)) = some (some z, 1, bytes)) (hz : z.cells.size = 1)
  (x : Option Addr) (m c : Nat) (news : List Value) (hl : news.length = m) (hnews : ∀ j u, news[j]? = some u → ∃ a, x = some a ∧ w.cell? (a.add j) = some u) (h1 : ∀ u ∈ news, u.oneCell' = true)
  (h63 : n + m ≤ maxLen) (hb : (n + m) * bytes ≤ 140737488355328) :
  ∃ v' w', appRun P T ty w v (.slice x m c) = .ok v' w' ∧ Sl w' e v' (n + m) (l ++ news) ∧ Only (ownS v) w w' ∧ (∀ g ∈ ownS v', g ∈ ownS v ∨ w.heap.size ≤ g) := by
 obtain ⟨i0, hi, hz0, hz1, hz2⟩ := info_parts hinfo
 have hll := h.1
 by_cases hm0 : m = 0
 ·subst hm0
  have hnil : news = [] := List.eq_nil_of_length_eq_zero hl
  subst hnil
  refine ⟨v, w, ?_, by simpa using h, Only.refl _ _, fun x hx => .inl hx⟩
  unfold appRun
  obtain ⟨A, cc, rfl, hnc⟩ := h.val
  cases x with
  | none => cases A <;> simp [Builtin.append_, run_underlying ht, sizeOf, typeInfo, hi, Builtin.lenOf, Builtin.firstCells, hnc, storeCells]
  | some a =>
   cases A with
   | none => simp [Builtin.append_, run_underlying ht, sizeOf, typeInfo, hi, Builtin.lenOf, Builtin.firstCells, hnc, storeCells, loadCells, loadCellsFrom]
   | some b => simp [Builtin.append_, run_underlying ht, sizeOf, typeInfo, hi, Builtin.lenOf, Builtin.firstCells, hnc, storeCells, loadCells, loadCellsFrom]
 ·obtain ⟨u0, hu0⟩ : ∃ u, news[0]? = some u := ⟨news[0]'(by omega), List.getElem?_eq_getElem (by omega)⟩
  obtain ⟨a, rfl, _⟩ := hnews 0 u0 hu0
  have hn2 : ∀ j u, news[j]? = some u → w.cell? (a.add j) = some u := fun j u hu => by
   obtain ⟨a', e1, h2⟩ := hnews j u hu
   injection e1 with e1
   rw [e1]; exact h2
  rcases h.2 with ⟨A, rfl, rfl⟩ | ⟨g, cap, rest, rfl, h0, B, hc, hm⟩
  ·have hnil : l = [] := List.eq_nil_of_length_eq_zero hll
   subst hnil
   cases A with
   | none =>
    obtain ⟨v', w', e1, h2, h3, h4⟩ := append_slc (P := P) (Slc.nil w e 1) T ty i0 z bytes ht hi hz0 hz1 hz2 hz (by omega) a m c news (by omega) hn2 h1 h63 hb
    exact ⟨v', w', e1, Sl.of_slc h2, h3.mono (by simp [ownB]), fun g hg => by
     have hg' : g ∈ ownB v' := by
      rcases h2.2 with ⟨rfl, _⟩ | ⟨g', cap', rest', rfl, _⟩
      ·simp [ownS] at hg
      ·simp [ownS] at hg; simp [ownB]; exact hg.2
     exact (h4 g hg').elim (fun h => by simp [ownB] at h) .inr⟩
   | some b =>
    obtain ⟨v', w', hrun, h2, h3⟩ := run_append_arg_grows (P := P) w T ty e i0 z 1 bytes ht hi hz0 hz1 hz2 hz (by omega) b 0 0 [] rfl (by simp) a m c news (by omega) hn2 (by omega) h63 hb
    refine ⟨v', w', hrun, Sl.of_slc (.of_own h2), (Only.refl _ _).grown h3 (by simp), ?_⟩
    intro g hg
    rcases h2.2 with ⟨rfl, _⟩ | ⟨g'', cap', cur, rfl, hb', _⟩
    ·simp [ownS] at hg
    ·simp [ownS] at hg; rw [hg.2]; exact .inr hb'
  ·have S : Slc w e 1 (.slice (some ⟨g, 0, none⟩) n cap) n l := ⟨by omega, .inr ⟨g, cap, rest, rfl, B, by omega, hm⟩⟩
   obtain ⟨v', w', e1, h2, h3, h4⟩ := append_slc (P := P) S T ty i0 z bytes ht hi hz0 hz1 hz2 hz (by omega) a m c news (by omega) hn2 h1 h63 hb
   have ho : ownS (.slice (some ⟨g, 0, none⟩) n cap) = [g] := by simp [ownS]; omega
   refine ⟨v', w', e1, Sl.of_slc h2, by rw [ho]; exact h3.mono (by simp [ownB]), fun x hx => ?_⟩
   rw [ho]
   have hx' : x ∈ ownB v' := by
    rcases h2.2 with ⟨rfl, _⟩ | ⟨g', cap', rest', rfl, _⟩
    ·simp [ownS] at hx
    ·simp [ownS] at hx; simp [ownB]; exact hx.2
   exact (h4 x hx').imp (by simp [ownB]) id
/-- append(v, x) of one element -/
theorem append_sl1 {P : Program} {w : World} {e : TypeId} {v : Value} {n : Nat} {l : List Value} (h : Sl w e v n l)
  (T ty : TypeId) (z : Value) (bytes : Nat) (ht : P.underlying T = some (.slice e)) (hinfo : (P.info? e).map (fun i => (i.zero, i.size, i.bytes)) = some (some z, 1, bytes)) (hz : z.cells.size = 1)
  (x : Value) (hx : x.oneCell' = true) (h63 : n + 1 ≤ maxLen) (hb : (n + 1) * bytes ≤ 140737488355328) :
  ∃ v' w', appRun P T ty (w.alloc (.cells #[x] e)) v (.slice (some ⟨w.heap.size, 0, none⟩) 1 1) = .ok v' w' ∧ Sl w' e v' (n + 1) (l ++ [x]) ∧ Only (ownS v) w w' ∧ (∀ g ∈ ownS v', g ∈ ownS v ∨ w.heap.size ≤ g) := by
 obtain ⟨v', w', h1, h2, h3, h4⟩ := append_sl (P := P) (h.alloc (.cells #[x] e)) T ty z bytes ht hinfo hz (some ⟨w.heap.size, 0, none⟩) 1 1 [x] rfl
  (fun j u hu => ⟨_, rfl, cells_at (l := [x]) (Blk.new w e #[x]) 0 _ (by simp) j u hu⟩) (by intro u hu; simp at hu; subst hu; exact hx) h63 hb
 exact ⟨v', w', h1, h2, ((Only.refl _ _).alloc _).trans_of h3 (fun x hx _ => hx), fun g hg => (h4 g hg).imp id (fun h => by simp at h; omega)⟩
end Go.Proofs.YtbelcgjbhpjnpaaGreat
