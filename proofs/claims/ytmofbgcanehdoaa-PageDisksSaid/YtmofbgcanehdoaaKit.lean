/-
  Words for memory that this seat's proofs share: blocks known whole, worlds that part in some blocks alone, bytes that lie in a block.
-/
import Derived.Test.YtmofbgcanehdoaaLawKit
import Derived.Laws.CopyOwn
import Derived.Deep.Draws
import Derived.Laws.Rows
import Derived.SliceStrings
namespace Go.Proofs.Ytmofbgcanehdoaa
open Go.RowKit

/-- block g is just the cells cs of element type t, none frozen -/
def Blk (w : World) (g : Nat) (t : TypeId) (cs : Array Value) : Prop := ∃ lo hi, w.heap[g]? = some (.cells cs t (lo, hi)) ∧ (lo = hi ∨ cs.size ≤ lo)

/-- worlds that part in the blocks of S alone (and in new ones) -/
structure Only (S : List Nat) (w w' : World) : Prop where
  os : w'.os = w.os
  tape : w'.tape = w.tape
  output : w'.output = w.output
  size : w.heap.size ≤ w'.heap.size
  block : ∀ k, k < w.heap.size → k ∉ S → w'.heap[k]? = w.heap[k]?

section
variable {w w' w'' : World} {g : Nat} {t : TypeId} {cs : Array Value} {S S' : List Nat}
theorem Only.refl (S : List Nat) (w : World) : Only S w w := ⟨rfl, rfl, rfl, Nat.le_refl _, fun _ _ _ => rfl⟩
theorem Only.trans_of (h : Only S w w') (k : Only S' w' w'') (hs : ∀ x ∈ S', x < w.heap.size → x ∈ S) : Only S w w'' :=
  ⟨k.os.trans h.os, k.tape.trans h.tape, k.output.trans h.output, Nat.le_trans h.size k.size, fun b hb hn =>
    (k.block b (Nat.lt_of_lt_of_le hb h.size) (fun hm => hn (hs b hm hb))).trans (h.block b hb hn)⟩
theorem Only.trans (h : Only S w w') (k : Only S w' w'') : Only S w w'' := h.trans_of k fun _ hx _ => hx
theorem Only.mono (h : Only S w w') (hs : ∀ x ∈ S, x < w.heap.size → x ∈ S') : Only S' w w' :=
  ⟨h.os, h.tape, h.output, h.size, fun b hb hn => h.block b hb fun hm => hn (hs b hm hb)⟩
theorem Only.of_below (h : Below w.heap.size w w') : Only S w w' := ⟨h.os, h.tape, h.output, h.size, fun b hb _ => h.block b hb⟩
theorem Only.below (h : Only S w w') (hs : ∀ x ∈ S, w.heap.size ≤ x) : Below w.heap.size w w' :=
  ⟨h.os, h.tape, h.output, h.size, fun b hb => h.block b hb fun hm => by have := hs b hm; omega⟩
theorem Only.below_of {B : Nat} (h : Only S w w') (hB : B ≤ w.heap.size) (hs : ∀ x ∈ S, B ≤ x) : Below B w w' :=
  ⟨h.os, h.tape, h.output, h.size, fun b hb => h.block b (by omega) fun hm => by have := hs b hm; omega⟩
theorem Only.below_nil (h : Only [] w w') : Below w.heap.size w w' := h.below (by simp)
theorem Only.drew (h : Only S w w') : Only S w w'.drew := ⟨h.os, h.tape, h.output, h.size, h.block⟩
theorem Only.drewN (h : Only S w w') (n : Nat) : Only S w (w'.drewN n) := ⟨h.os, h.tape, h.output, h.size, h.block⟩
theorem Only.alloc (h : Only S w w') (o : Obj) : Only S w (w'.alloc o) :=
  h.trans ⟨rfl, rfl, rfl, by simp, fun b hb _ => Below.heap_alloc _ _ _ hb⟩
theorem Only.setCell (h : Only S w w') {p : Addr} (hp : p.block < w.heap.size → p.block ∈ S) (v : Value) : Only S w (w'.setCell p v) :=
  ⟨h.os, h.tape, h.output, Nat.le_trans h.size (by simp [World.setCell]), fun b hb hn =>
    (Below.heap_setCell _ _ _ _ (fun e => hn (by subst e; exact hp hb))).trans (h.block b hb hn)⟩
theorem Only.setRow (h : Only S w w') {g : Nat} (hp : g < w.heap.size → g ∈ S) (c : Array Value) : Only S w (w'.setRow g c) :=
  ⟨h.os, h.tape, h.output, Nat.le_trans h.size (by simp), fun b hb hn =>
    (setRow_other _ _ _ _ (fun e => hn (by subst e; exact hp hb))).trans (h.block b hb hn)⟩
theorem Only.grown {row : Option Nat} (h : Only S w w') (hg : w'.grownBy w'' row) (hr : ∀ k, row = some k → k < w.heap.size → k ∈ S) : Only S w w'' :=
  ⟨hg.os.trans h.os, hg.tape.trans h.tape, hg.output.trans h.output, Nat.le_trans h.size hg.size, fun b hb hn =>
    (hg.block b (Nat.lt_of_lt_of_le hb h.size) (fun e => hn (hr b e.symm hb))).trans (h.block b hb hn)⟩
theorem Only.cell (h : Only S w w') {p : Addr} (hp : p.block < w.heap.size) (hn : p.block ∉ S) : w'.cell? p = w.cell? p := World.cell?_of_block (w := w) (h.block p.block hp hn)
theorem Only.frozen (h : Only S w w') {p : Addr} (hp : p.block < w.heap.size) (hn : p.block ∉ S) : w'.frozen? p = w.frozen? p := World.frozen?_of_block (w := w) (h.block p.block hp hn)

theorem Blk.of_eq (h : w.heap[g]? = some (.cells cs t (0, 0))) : Blk w g t cs := ⟨0, 0, h, .inl rfl⟩
theorem Blk.of_same (h : Blk w g t cs) (e : w'.heap[g]? = w.heap[g]?) : Blk w' g t cs := by
  obtain ⟨lo, hi, h1, h2⟩ := h
  exact ⟨lo, hi, e.trans h1, h2⟩
theorem Blk.lt (h : Blk w g t cs) : g < w.heap.size := by
  obtain ⟨lo, hi, h, _⟩ := h
  rcases Nat.lt_or_ge g w.heap.size with hlt | hge
  · exact hlt
  · rw [Array.getElem?_eq_none hge] at h; cases h
theorem Blk.cell (h : Blk w g t cs) (i : Nat) : w.cell? ⟨g, i, none⟩ = cs[i]? := by
  obtain ⟨lo, hi, h, _⟩ := h
  exact cell_of_row w g i cs t (lo, hi) h
theorem Blk.cell_some (h : Blk w g t cs) {i : Nat} {v : Value} (hv : cs[i]? = some v) : w.cell? ⟨g, i, none⟩ = some v := (h.cell i).trans hv
theorem Blk.frozen (h : Blk w g t cs) (i : Nat) (hi : i < cs.size) : w.frozen? ⟨g, i, none⟩ = false := by
  obtain ⟨lo, hi', h, h2⟩ := h
  simp only [World.frozen?, h]
  rcases h2 with rfl | h2
  · simp
  · simp; omega
theorem Blk.new (w : World) (t : TypeId) (cs : Array Value) : Blk (w.alloc (.cells cs t)) w.heap.size t cs := .of_eq (heap_alloc_new w _)
theorem Blk.drew (h : Blk w g t cs) : Blk w.drew g t cs := h
theorem Blk.drewN (h : Blk w g t cs) (n : Nat) : Blk (w.drewN n) g t cs := h
theorem Blk.alloc (h : Blk w g t cs) (o : Obj) : Blk (w.alloc o) g t cs := h.of_same (Below.heap_alloc w o g h.lt)
theorem Blk.set_ (h : Blk w g t cs) (i : Nat) (u : Value) : Blk (w.setCell ⟨g, i, none⟩ u) g t (cs.setIfInBounds i u) := by
  obtain ⟨lo, hi, h, h2⟩ := h
  exact ⟨lo, hi, by simp [World.setCell, Array.getElem?_modify, h], by simpa using h2⟩
theorem Blk.far (h : Blk w g t cs) {p : Addr} (hp : g ≠ p.block) (u : Value) : Blk (w.setCell p u) g t cs := h.of_same (Below.heap_setCell w p u g hp)
theorem Blk.below {B : Nat} (h : Blk w g t cs) (hb : Below B w w') (hg : g < B) : Blk w' g t cs := h.of_same (hb.block g hg)
theorem Blk.only (h : Blk w g t cs) (hb : Only S w w') (hg : g ∉ S) : Blk w' g t cs := h.of_same (hb.block g h.lt hg)
theorem Blk.grown {row : Option Nat} (h : Blk w g t cs) (hb : w.grownBy w' row) (hg : some g ≠ row) : Blk w' g t cs := h.of_same (hb.block g h.lt hg)
theorem Blk.inj {t' : TypeId} {cs' : Array Value} (h : Blk w g t cs) (h' : Blk w g t' cs') : t = t' ∧ cs = cs' := by
  obtain ⟨lo, hi, h, _⟩ := h
  obtain ⟨lo', hi', h', _⟩ := h'
  rw [h] at h'
  injection h' with h'
  injection h' with e1 e2
  exact ⟨e2, e1⟩
theorem Blk.ne_ {g' : Nat} {t' : TypeId} {cs' : Array Value} (h : Blk w g t cs) (h' : Blk w g' t' cs') (hne : t ≠ t') : g ≠ g' := by
  rintro rfl
  exact hne (h.inj h').1
end

theorem Below_drewN {B : Nat} {w w' : World} (h : Below B w w') (n : Nat) : Below B w (w'.drewN n) := ⟨h.os, h.tape, h.output, h.size, h.block⟩
theorem bytes_toList (s : ByteArray) : s.toList = s.data.toList := ByteArray.toList_eq s

/-- '+' on strings, as lists -/
theorem string_append_list (l : List UInt8) (s : ByteArray) : (⟨l.toArray⟩ ++ s : ByteArray) = ⟨(l ++ s.data.toList).toArray⟩ := by
  apply ByteArray.ext
  rw [ByteArray.data_append]
  simp

theorem bstep {w a b : World} (h : Below w.heap.size w a) (k : Below a.heap.size a b) : Below w.heap.size w b := h.trans (k.mono h.size)

theorem block_of_add (a : Addr) (n : Nat) : (a.add n).block = a.block := by unfold Addr.add; split <;> rfl
theorem add_of_add (a : Addr) (i j : Nat) : (a.add i).add j = a.add (i + j) := by
  unfold Addr.add
  by_cases hi : i = 0 <;> by_cases hj : j = 0 <;> simp [hi, hj, Nat.add_assoc]
theorem cell_lt' {w : World} {a : Addr} {v : Value} (h : w.cell? a = some v) : a.block < w.heap.size := by
  rcases Nat.lt_or_ge a.block w.heap.size with hlt | hge
  · exact hlt
  · simp [World.cell?, Array.getElem?_eq_none hge] at h
theorem cell_lt {w : World} {a : Addr} {k : Nat} {v : Value} (h : w.cell? (a.add k) = some v) : a.block < w.heap.size := by
  rcases Nat.lt_or_ge a.block w.heap.size with hlt | hge
  · exact hlt
  · simp [World.cell?, block_of_add, Array.getElem?_eq_none hge] at h

/-! bytes -/
/-- a byte as a value -/
def bv (b : UInt8) : Value := .int .u8 (b.toNat : Int)
/-- bytes as values -/
def bvs (l : List UInt8) : List Value := l.map bv
@[simp] theorem bvs_length (l : List UInt8) : (bvs l).length = l.length := by simp [bvs]
theorem bvs_append (l m : List UInt8) : bvs (l ++ m) = bvs l ++ bvs m := by simp [bvs]
theorem bvs_get (l : List UInt8) (i : Nat) : (bvs l)[i]? = l[i]?.map bv := by simp [bvs]
theorem bvs_one (l : List UInt8) : ∀ v ∈ bvs l, v.oneCell' = true := by
  intro v hv
  obtain ⟨b, _, rfl⟩ := List.mem_map.1 hv
  rfl

theorem foldl_push (l : List UInt8) : ∀ s : ByteArray, (l.map fun b => (b.toNat : Int)).foldl (fun r n => r.push (UInt8.ofNat n.toNat)) s = ⟨(s.data.toList ++ l).toArray⟩ := by
  induction l with
  | nil => intro s; cases s; simp
  | cons b l ih =>
    intro s
    simp only [List.map_cons, List.foldl_cons]
    rw [ih]
    congr 1
    simp [ByteArray.push]

/-- string(b): the bytes that lie there -/
theorem run_string_of {P : Program} (w : World) (src dst e : TypeId) (hs : P.underlying src = some (.slice e)) (he : P.underlying e = some (.int .u8)) (hd : P.underlying dst = some .string)
    (a : Addr) (len cap : Nat) (l : List UInt8) (hl : l.length = len) (hc : ∀ j v, (bvs l)[j]? = some v → w.cell? (a.add j) = some v) :
    (convert src dst (.slice (some a) len cap)).run P w = .ok (.string ⟨l.toArray⟩) w := by
  subst hl
  rw [run_convert_bytes_string w src dst e (some a) l.length cap hs he hd]
  have h := run_loadCells_list (P := P) w a (bvs l) hc
  rw [bvs_length] at h
  have e2 : bvs l = (l.map fun b => (b.toNat : Int)).map (Value.int .u8) := by simp [bvs, bv]
  rw [e2] at h
  rw [run_bytesToString w a l.length cap _ h, foldl_push]
  simp

/-- cells written into a row from o on -/
def putAt (cur : List Value) (o : Nat) (cs : List Value) : List Value := cur.take o ++ cs ++ cur.drop (o + cs.length)
theorem putAt_nil (cur : List Value) (o : Nat) : putAt cur o [] = cur := by simp [putAt]
theorem putAt_length {cur : List Value} {o : Nat} {cs : List Value} (h : o + cs.length ≤ cur.length) : (putAt cur o cs).length = cur.length := by
  simp [putAt]; omega
theorem madeCells_one (z : Value) (n : Nat) : madeCells #[z] n = (List.replicate n z).toArray := by
  apply Array.ext
  · simp [size_madeCells]
  · intro i h1 h2
    simp [madeCells, Nat.mod_one]

theorem putAt_cons {cur : List Value} {o : Nat} {v : Value} {cs : List Value} (h : o < cur.length) : putAt (cur.set o v) (o + 1) cs = putAt cur o (v :: cs) := by
  unfold putAt
  rw [List.length_cons, List.take_succ_eq_append_getElem (by simpa using h), List.take_set_of_le (Nat.le_refl _), List.getElem_set_self, List.drop_set_of_lt (by omega)]
  simp [Nat.add_assoc, Nat.add_comm 1]
theorem Blk.setCells {g : Nat} {t : TypeId} : ∀ (cs : List Value) {w : World} {cur : List Value} (o : Nat), Blk w g t cur.toArray → o + cs.length ≤ cur.length → Blk (w.setCells g o cs) g t (putAt cur o cs).toArray
  | [], w, cur, o, h, _ => by rw [putAt_nil]; exact h
  | v :: cs, w, cur, o, h, hl => by
    simp only [List.length_cons] at hl
    have h1 := h.set_ o v
    rw [List.setIfInBounds_toArray] at h1
    have h2 := Blk.setCells cs (o + 1) h1 (by rw [List.length_set]; omega)
    rw [putAt_cons (by omega)] at h2
    exact h2
theorem Only.setCells {S : List Nat} {w : World} {g : Nat} : ∀ (cs : List Value) {w' : World} (o : Nat), Only S w w' → (g < w.heap.size → g ∈ S) → Only S w (w'.setCells g o cs)
  | [], _, _, h, _ => h
  | v :: cs, _, o, h, hg => Only.setCells cs (o + 1) (h.setCell (p := ⟨g, o, none⟩) hg v) hg

/-- copy(d, s): s a slice whose cells are known, d in a block known whole -/
theorem copy_cells {P : Program} {w : World} {g : Nat} {t : TypeId} {cur : List Value} (B : Blk w g t cur.toArray) (dT sT ty elem : TypeId) (o dLen dCap : Nat) (a : Addr) (sLen sCap : Nat) (cs : List Value)
    (hu : P.underlying dT = some (.slice elem)) (hs : (P.info? elem).map (·.size) = some 1) (hn : cs.length = Nat.min sLen dLen)
    (hsrc : ∀ j v, cs[j]? = some v → w.cell? (a.add j) = some v) (hfit : o + cs.length ≤ cur.length) (h1 : ∀ v ∈ cs, v.oneCell' = true) :
    ∃ w', (Builtin.copy_ #[dT, sT] ty #[.slice (some ⟨g, o, none⟩) dLen dCap, .slice (some a) sLen sCap]).run P w = .ok (goInt cs.length) w' ∧ Blk w' g t (putAt cur o cs).toArray ∧ Only [g] w w' :=
  ⟨_, run_copy_cells (P := P) w dT sT ty elem g o dLen dCap a sLen sCap cs hu hs hn hsrc (fun j hj => by rw [B.cell]; simp; omega) (fun j hj => B.frozen _ (by simp; omega)) h1,
    B.setCells cs o hfit, (Only.refl _ _).setCells cs o (by simp)⟩
/-- copy(d, s): s a string -/
theorem copy_string {P : Program} {w : World} {g : Nat} {t : TypeId} {cur : List Value} (B : Blk w g t cur.toArray) (dT sT ty elem : TypeId) (o dLen dCap : Nat) (s : ByteArray) (n : Nat)
    (hu : P.underlying dT = some (.slice elem)) (hs : (P.info? elem).map (·.size) = some 1) (hn : n = Nat.min s.size dLen) (hfit : o + n ≤ cur.length) :
    ∃ w', (Builtin.copy_ #[dT, sT] ty #[.slice (some ⟨g, o, none⟩) dLen dCap, .string s]).run P w = .ok (goInt n) w' ∧ Blk w' g t (putAt cur o (bvs (s.data.toList.take n))).toArray ∧ Only [g] w w' := by
  have hl : (bvs (s.data.toList.take n)).length = n := by
    have : n ≤ s.size := by rw [hn]; exact Nat.min_le_left _ _
    simp; omega
  refine ⟨w.setCells g o (bvs (s.data.toList.take n)), ?_, B.setCells _ o (by omega), (Only.refl _ _).setCells _ o (by simp)⟩
  have hst := run_storeCells_cells (P := P) g o (bvs (s.data.toList.take n)) 0 w (fun j hj => by rw [B.cell]; simp; omega) (fun j hj => B.frozen _ (by simp; omega)) (bvs_one _)
  have e : List.take n (List.map (fun b : UInt8 => Value.int .u8 (b.toNat : Int)) s.data.toList) = bvs (s.data.toList.take n) := by
    rw [bvs, List.map_take]; rfl
  cases hq : P.info? elem with
  | none => simp [hq] at hs
  | some i =>
    simp only [Nat.add_zero] at hst
    simp [Builtin.copy_, run_underlying hu, Builtin.lenOf, Builtin.firstCells, sizeOf, typeInfo, hq, ← hn]
    rw [e, hst]
    simp [Result.andThen]
theorem cells_at {w : World} {g : Nat} {t : TypeId} {l : List Value} (B : Blk w g t l.toArray) (o : Nat) (cs : List Value) (h : ∀ j v, cs[j]? = some v → l[o + j]? = some v) :
    ∀ j v, cs[j]? = some v → w.cell? ((⟨g, o, none⟩ : Addr).add j) = some v := by
  intro j v hv
  have e : (⟨g, o, none⟩ : Addr).add j = ⟨g, o + j, none⟩ := by unfold Addr.add; split <;> simp_all
  rw [e, B.cell]
  simpa using h j v hv

/-! slices of the call's own -/
/-- the slice value v has n elements of type e (size cells each), just the cells l, at the head of a block known whole -/
def Slc (w : World) (e : TypeId) (size : Nat) (v : Value) (n : Nat) (l : List Value) : Prop :=
  l.length = n * size ∧ ((v = .slice none 0 0 ∧ n = 0) ∨
    ∃ g cap rest, v = .slice (some ⟨g, 0, none⟩) n cap ∧ Blk w g e (l ++ rest).toArray ∧ l.length + rest.length = cap * size ∧ cap ≤ maxLen)
/-- the block of a slice -/
def ownB : Value → List Nat
  | .slice (some a) _ _ => [a.block]
  | _ => []
section
variable {w w' : World} {e : TypeId} {size : Nat} {v : Value} {n : Nat} {l : List Value} {S : List Nat}
theorem Slc.nil (w : World) (e : TypeId) (size : Nat) : Slc w e size (.slice none 0 0) 0 [] := ⟨by simp, .inl ⟨rfl, rfl⟩⟩
theorem Slc.only (h : Slc w e size v n l) (ho : Only S w w') (hd : ∀ g ∈ ownB v, g ∉ S) : Slc w' e size v n l := by
  refine ⟨h.1, h.2.imp id ?_⟩
  rintro ⟨g, cap, rest, rfl, B, hc, hm⟩
  exact ⟨g, cap, rest, rfl, B.only ho (hd g (by simp [ownB])), hc, hm⟩
theorem Slc.below (h : Slc w e size v n l) (hb : Below w.heap.size w w') : Slc w' e size v n l := h.only (S := []) (.of_below hb) (by simp)
theorem Slc.drew (h : Slc w e size v n l) : Slc w.drew e size v n l := h
theorem Slc.drewN (h : Slc w e size v n l) (k : Nat) : Slc (w.drewN k) e size v n l := h
theorem Slc.alloc (h : Slc w e size v n l) (o : Obj) : Slc (w.alloc o) e size v n l := h.only (S := []) ((Only.refl _ _).alloc o) (by simp)
theorem Slc.lt (h : Slc w e size v n l) : ∀ g ∈ ownB v, g < w.heap.size := by
  rcases h.2 with ⟨rfl, _⟩ | ⟨g, cap, rest, rfl, B, _⟩
  · simp [ownB]
  · intro x hx; simp [ownB] at hx; subst hx; exact B.lt
theorem Slc.of_own {base : Nat} (h : w.ownsRow base e size v n l) : Slc w e size v n l := by
  refine ⟨h.1, h.2.imp id ?_⟩
  rintro ⟨g, cap, cur, rfl, _, hh, hnc, hm, hs, ht⟩
  have hsz : cur.toList.length = cap * size := by simpa using hs
  refine ⟨g, cap, cur.toList.drop (n * size), rfl, ?_, ?_, hm⟩
  · rw [← ht, List.take_append_drop]; exact .of_eq hh
  · rw [h.1, List.length_drop, hsz]
    have : n * size ≤ cap * size := Nat.mul_le_mul_right _ hnc
    omega
/-- the shape, where there is an element -/
theorem Slc.form (h : Slc w e size v n l) (hn : 0 < n) (hs : 0 < size) : ∃ g cap rest, v = .slice (some ⟨g, 0, none⟩) n cap ∧ Blk w g e (l ++ rest).toArray ∧ n ≤ cap ∧ l.length + rest.length = cap * size := by
  rcases h.2 with ⟨_, h0⟩ | ⟨g, cap, rest, rfl, B, hc, _⟩
  · omega
  · refine ⟨g, cap, rest, rfl, B, ?_, hc⟩
    have h1 := h.1
    have : n * size ≤ cap * size := by omega
    exact Nat.le_of_mul_le_mul_right this hs
theorem Slc.blk {g n' cap : Nat} (h : Slc w e size (.slice (some ⟨g, 0, none⟩) n' cap) n l) : ∃ rest, Blk w g e (l ++ rest).toArray ∧ l.length + rest.length = cap * size ∧ n' = n ∧ cap ≤ maxLen := by
  rcases h.2 with ⟨h0, _⟩ | ⟨g', cap', rest, hv, B, hc, hm⟩
  · simp at h0
  · simp only [Value.slice.injEq, Option.some.injEq, Addr.mk.injEq, and_true] at hv
    obtain ⟨rfl, rfl, rfl⟩ := hv
    exact ⟨rest, B, hc, rfl, hm⟩
end
/-- append(v, xs...) -/
theorem append_slc {P : Program} {w : World} {e : TypeId} {size : Nat} {v : Value} {n : Nat} {l : List Value} (h : Slc w e size v n l)
    (t ty : TypeId) (i : TypeInfo) (z : Value) (bytes : Nat) (ht : P.underlying t = some (.slice e)) (hi : P.info? e = some i) (hz : i.zero = some z)
    (hsize : i.size = size) (hby : i.bytes = bytes) (hzs : z.cells.size = size) (hsz : 0 < size)
    (a : Addr) (m c : Nat) (news : List Value) (hl : news.length = m * size) (hnews : ∀ j u, news[j]? = some u → w.cell? (a.add j) = some u) (h1 : ∀ u ∈ news, u.oneCell' = true)
    (h63 : n + m ≤ maxLen) (hbytes : (n + m) * bytes ≤ 140737488355328) :
    ∃ v' w', (Builtin.append_ #[t, t] ty #[v, .slice (some a) m c]).run P w = .ok v' w' ∧ Slc w' e size v' (n + m) (l ++ news) ∧ Only (ownB v) w w' ∧ (∀ g ∈ ownB v', g ∈ ownB v ∨ w.heap.size ≤ g) := by
  rcases h.2 with ⟨rfl, rfl⟩ | ⟨g, cap, rest, rfl, B, hc, hm⟩
  · have hnil : l = [] := List.eq_nil_of_length_eq_zero (by simpa using h.1)
    subst hnil
    obtain ⟨v', w', hr, h2, h3, _⟩ := run_append_own (P := P) w w.heap.size t ty e i z size bytes ht hi hz hsize hby hzs hsz (.slice none 0 0) 0 [] (World.ownsRow_nil _ _ _ _) a m c news hl hnews h1 h63 hbytes (Nat.le_refl _)
    refine ⟨v', w', hr, .of_own h2, (Only.refl _ _).grown h3 (by simp [Value.ownBlock]), ?_⟩
    intro g hg
    rcases h2.2 with ⟨rfl, _⟩ | ⟨g', cap, cur, rfl, hb, _⟩
    · simp [ownB] at hg
    · simp [ownB] at hg; subst hg; exact .inr hb
  · by_cases hr : n + m ≤ cap
    · subst hsize
      have hmul : (n + m) * i.size ≤ cap * i.size := Nat.mul_le_mul_right _ hr
      rw [Nat.add_mul] at hmul
      have hh := h.1
      have hrun := run_append_room_cells (P := P) w t ty e i ht hi g 0 n cap a m c news hl hnews h1 hr (fun j hj => by rw [B.cell]; simp; omega) (fun j hj => B.frozen _ (by simp; omega))
      refine ⟨_, _, hrun, ⟨by simp [hh, hl, Nat.add_mul], .inr ⟨g, cap, rest.drop news.length, rfl, ?_, by simp; omega, hm⟩⟩, (Only.refl _ _).setCells news _ (by simp [ownB]), by simp [ownB]⟩
      have B2 := B.setCells news (0 + n * i.size) (by simp; omega)
      have e2 : putAt (l ++ rest) (0 + n * i.size) news = l ++ news ++ rest.drop news.length := by
        unfold putAt
        rw [Nat.zero_add, ← hh, List.take_left, ← List.drop_drop, List.drop_left]
      rwa [e2] at B2
    · obtain ⟨v', w', hrun, h2, h3⟩ := run_append_arg_grows (P := P) w t ty e i z size bytes ht hi hz hsize hby hzs hsz ⟨g, 0, none⟩ n cap l h.1 (cells_at B 0 l (by intro j u hu; rw [Nat.zero_add]; exact List.getElem?_append_left (List.getElem?_eq_some_iff.1 hu).1 ▸ hu)) a m c news hl hnews (by omega) h63 hbytes
      refine ⟨v', w', hrun, .of_own h2, (Only.refl _ _).grown h3 (by simp), ?_⟩
      intro g' hg
      rcases h2.2 with ⟨rfl, _⟩ | ⟨g'', cap', cur, rfl, hb, _⟩
      · simp [ownB] at hg
      · simp [ownB] at hg; subst hg; exact .inr hb
/-- an append whose run is known: an arm of the walk: '(at_builtin; refine wpList_append_run rfl _ _ _ rfl _ _ rfl rfl RUN ?_)' -/
theorem wpList_append_run {P : Program} {w : World} {ops : Array Oper} {rest : List Oper} {o : Oper} {a : Act} {Q : Exit → Act → World → Prop} (hgd : o.guard = none) (s x : Operand) (t : TypeId)
    (ho : o.op = .call { callee := .builtin .append, args := #[s, x], argTypes := #[t, t] }) (v xv : Value) (hs : a.eval s = v) (hx : a.eval x = xv) {v' : Value} {w' : World}
    (hrun : (Builtin.append_ #[t, t] o.type #[v, xv]).run P w = .ok v' w') (h : wpList P ops Q rest (a.put o.dst v') w') : wpList P ops Q (o :: rest) a w := by
  refine wpList_plain hgd fun K hK => ?_
  unfold Oper.wp
  simp [execOp, ho, resolve, invoke, builtin, hs, hx, hrun, Result.andThen]
  exact hK _ _ h
/-- []byte(s) -/
theorem bytes_of_string {P : Program} (w : World) (src dst e : TypeId) (s : ByteArray) (hs : P.underlying src = some .string) (hd : P.underlying dst = some (.slice e)) (he : P.underlying e = some (.int .u8)) (hm : s.size ≤ maxLen) :
    ∃ cap w', (convert src dst (.string s)).run P w = .ok (.slice (some ⟨w.heap.size, 0, none⟩) s.size cap) w' ∧ Slc w' e 1 (.slice (some ⟨w.heap.size, 0, none⟩) s.size cap) s.size (bvs s.data.toList) ∧ Below w.heap.size w w' := by
  refine ⟨_, _, run_bytes_of_string (P := P) w src dst e s hs hd he, ⟨by simp, .inr ⟨w.heap.size, _, List.replicate (grownCap w s.size 0 e - s.size) (.int .u8 0), rfl, ?_, ?_, grownCap_le_maxLen _ _ _ _ hm⟩⟩, ?_⟩
  · have e1 : bytesRow s (grownCap w s.size 0 e) = (bvs s.data.toList ++ List.replicate (grownCap w s.size 0 e - s.size) (Value.int .u8 0)).toArray := by
      apply Array.toList_inj.1
      simp [bytesRow, bvs]
      exact fun _ _ => rfl
    rw [e1]
    exact ⟨_, _, heap_alloc_new w.drew _, .inr (Nat.le_refl _)⟩
  · have := grownCap_ge w s.size 0 e
    simp; omega
  · exact ⟨rfl, rfl, rfl, by simp, fun k hk => Below.heap_alloc w.drew _ k hk⟩
/-- a []string that came in -/
theorem strs_view {H : Type} {enc : TypeId × Value → H} {P : Program} {W : World} {base : Nat} {t e : TypeId} {v : Value} {d : DataW H} {ps : List MemPlace} (ht : P.underlying t = some (.slice e)) (he : P.underlying e = some .string) (hc : P.cellsOf e = 1)
    (hok : Value.okWide P W .any base t v) (h : DataW.Trod enc P W 0 (fun _ => true) true t v d ps) :
    ∃ (A : Option Addr) (n c : Nat) (ss : Nat → ByteArray), v = .slice A n c ∧ n ≤ maxLen ∧ ∀ k, k < n → ∃ ad, A = some ad ∧ W.cell? (ad.add k) = some (.string (ss k)) ∧ (ss k).size ≤ maxLen := by
  obtain ⟨a0, len, cap, rfl⟩ := Go.WideShapes.okWide_slice ht hok
  obtain ⟨fuel, hf⟩ := h
  rcases Go.ChangeShapes.open_strings ht he hc hf with ⟨hcs, _⟩ | ⟨a, len', cap', ss, hcs, _, hl, hm, hz, _, hcell, hws⟩
  · simp [Value.cells] at hcs
    obtain ⟨rfl, rfl, rfl⟩ := hcs
    exact ⟨none, 0, 0, fun _ => ByteArray.empty, rfl, Nat.zero_le _, fun k hk => absurd hk (by omega)⟩
  · simp [Value.cells] at hcs
    obtain ⟨rfl, rfl, rfl⟩ := hcs
    simp at hz
    refine ⟨some a, len, cap, fun k => ss.getD k ByteArray.empty, rfl, by omega, fun k hk => ⟨a, rfl, hcell k (by omega), ?_⟩⟩
    have hk2 : k < ss.length := by omega
    have : ss.getD k ByteArray.empty = ss[k] := by simp [List.getD, List.getElem?_eq_getElem hk2]
    show (ss.getD k ByteArray.empty).size ≤ maxLen
    rw [this]
    exact hws _ (List.getElem_mem hk2)
end Go.Proofs.Ytmofbgcanehdoaa
