/- a disk's sectors, in plain lists of bytes. -/
import Derived.Test.YtbelcgjbhpjnpaaGreatKa
import Derived.Deep.QuietTactic
import Derived.BigQuiet
set_option linter.all false
set_option linter.unusedVariables false
set_option linter.unusedSimpArgs false
set_option maxRecDepth 100000
namespace Go.Proofs.YtbelcgjbhpjnpaaGreat.Dk
open Go.RowKit

/-- a sector's bytes, out of all bytes one behind the other -/
def sec (F : List UInt8) (i : Nat) : List UInt8 := (F.drop (64 * i)).take 64
/-- bytes laid from a place on -/
def lay (F : List UInt8) (o : Nat) (c : List UInt8) : List UInt8 := F.take o ++ c ++ F.drop (o + c.length)
/-- a sector's new bytes -/
def setSec (F : List UInt8) (i : Nat) (c : List UInt8) : List UInt8 := lay F (64 * i) c
theorem lay_length {F : List UInt8} {o : Nat} {c : List UInt8} (h : o + c.length ≤ F.length) : (lay F o c).length = F.length := by
 simp [lay]; omega
theorem bvs_lay (F : List UInt8) (o : Nat) (c : List UInt8) : putAt (bvs F) o (bvs c) = bvs (lay F o c) := by
 simp [putAt, lay, bvs]
theorem sec_length {F : List UInt8} {n i : Nat} (hF : F.length = 64 * n) (hi : i < n) : (sec F i).length = 64 := by
 simp [sec]; omega
theorem lay_get {F : List UInt8} {o : Nat} {c : List UInt8} (h : o + c.length ≤ F.length) (j : Nat) : (lay F o c)[j]? = if o ≤ j ∧ j < o + c.length then c[j - o]? else F[j]? := by
 unfold lay
 by_cases h1 : j < o
 ·rw [if_neg (by omega), List.append_assoc, List.getElem?_append_left (by simp; omega), List.getElem?_take_of_lt h1]
 ·have e : (F.take o).length = o := by simp; omega
  by_cases h2 : j < o + c.length
  ·rw [if_pos ⟨by omega, h2⟩, List.append_assoc, List.getElem?_append_right (by omega), e, List.getElem?_append_left (by omega)]
  ·rw [if_neg (by omega), List.getElem?_append_right (by simp; omega), List.getElem?_drop]
   congr 1
   simp; omega
theorem sec_get (F : List UInt8) (i j : Nat) : (sec F i)[j]? = if j < 64 then F[64 * i + j]? else none := by
 unfold sec
 by_cases h : j < 64
 ·rw [if_pos h, List.getElem?_take_of_lt h, List.getElem?_drop]
 ·rw [if_neg h, List.getElem?_eq_none (by simp; omega)]
theorem sec_set {F c : List UInt8} {n i k : Nat} (hF : F.length = 64 * n) (hi : i < n) (hc : c.length = 64) (_hk : k < n) : sec (setSec F i c) k = if i = k then c else sec F k := by
 apply List.ext_getElem?
 intro j
 rw [sec_get]
 unfold setSec
 rw [lay_get (by omega)]
 by_cases hj : j < 64
 ·rw [if_pos hj, hc]
  by_cases e : i = k
  ·subst e
   rw [if_pos ⟨by omega, by omega⟩, if_pos rfl]
   congr 1; omega
  ·rw [if_neg (by omega), if_neg e, sec_get, if_pos hj]
 ·rw [if_neg hj]
  split
  ·rw [List.getElem?_eq_none (by omega)]
  ·rw [sec_get, if_neg hj]
/-- what a sector holds behind a write: a text, cut at 64, and bytes 0 behind it -/
def fillF (s : List UInt8) : List UInt8 := s.take 64 ++ List.replicate (64 - s.length) 0
theorem fillF_length (s : List UInt8) : (fillF s).length = 64 := by simp [fillF]; omega
theorem zero_then (F s : List UInt8) {n i : Nat} (hF : F.length = 64 * n) (hi : i < n) : lay (setSec F i (List.replicate 64 0)) (64 * i) (s.take 64) = setSec F i (fillF s) := by
 have h0 : (setSec F i (List.replicate 64 0)).length = F.length := lay_length (by simp; omega)
 apply List.ext_getElem?
 intro j
 have hz := fillF_length s
 rw [lay_get (by rw [h0]; simp; omega)]
 unfold setSec
 rw [lay_get (by simp; omega), lay_get (by omega), hz]
 simp only [List.length_take, List.length_replicate]
 by_cases h1 : 64 * i ≤ j ∧ j < 64 * i + min 64 s.length
 ·rw [if_pos h1, if_pos (by omega), fillF, List.getElem?_append_left (by simp; omega)]
 ·rw [if_neg h1]
  by_cases h2 : 64 * i ≤ j ∧ j < 64 * i + 64
  ·rw [if_pos h2, if_pos h2, fillF, List.getElem?_append_right (by simp; omega), List.getElem?_replicate, List.getElem?_replicate]
   simp only [List.length_take]
   rw [if_pos (by omega), if_pos (by omega)]
  ·rw [if_neg h2, if_neg h2]
/-- the end of a sector's old bytes over its new ones -/
theorem torn_lay (F G : List UInt8) {n i k : Nat} (hF : F.length = 64 * n) (hG : G.length = 64 * n) (hi : i < n) (hk : k ≤ 64) :
  lay F (64 * i + k) ((sec G i).drop k) = setSec F i ((sec F i).take k ++ (sec G i).drop k) := by
 have e1 := sec_length hF hi
 have e2 := sec_length hG hi
 apply List.ext_getElem?
 intro j
 unfold setSec
 rw [lay_get (by simp [e2]; omega), lay_get (by simp [e1, e2]; omega)]
 simp only [List.length_append, List.length_take, List.length_drop, e1, e2]
 by_cases h1 : 64 * i + k ≤ j ∧ j < 64 * i + k + (64 - k)
 ·rw [if_pos h1, if_pos (by omega), List.getElem?_append_right (by simp; omega)]
  congr 1
  simp; omega
 ·rw [if_neg h1]
  by_cases h2 : 64 * i ≤ j ∧ j < 64 * i + (min k 64 + (64 - k))
  ·rw [if_pos h2, List.getElem?_append_left (by simp [e1]; omega), List.getElem?_take_of_lt (by omega), sec_get, if_pos (by omega)]
   congr 1; omega
  ·rw [if_neg h2]

/-- a disk's content -/
structure D where
 now : List UInt8
 old : List UInt8
 loose : List Bool
 armed : Int
 calls : Int
 down : Bool
/-- n sectors, and what counts is no great number -/
structure D.Ok (d : D) (n : Nat) : Prop where
 now : d.now.length = 64 * n
 old : d.old.length = 64 * n
 loose : d.loose.length = n
 small : n ≤ 4096
 armed : 0 ≤ d.armed
 calls : 0 ≤ d.calls
def D.worksF (d : D) : Int := if d.down then 13 else 0
def D.atF (d : D) (n : Nat) (i : Int) : Int := if d.down then 13 else if 0 ≤ i ∧ i < n then 0 else 3
def D.countF (d : D) : D × Int :=
 if d.armed = 0 then ({ d with calls := d.calls + 1 }, 0)
 else if d.armed = 1 then ({ d with calls := d.calls + 1, armed := 0, down := true }, 13)
 else ({ d with calls := d.calls + 1, armed := d.armed - 1, down := false }, 0)
/-- a sector is about to be written: it is loose, and its old bytes are kept -/
def D.keepF (d : D) (i : Nat) : D := if d.loose.getD i false then d else { d with old := setSec d.old i (sec d.now i), loose := d.loose.set i true }
def D.putF (d : D) (i : Nat) (s : List UInt8) : D := { d.keepF i with now := setSec d.now i (fillF s) }
def D.writeF (d : D) (n : Nat) (i : Int) (s : List UInt8) : D × Int :=
 if d.atF n i = 0 then (d.putF i.toNat s).countF else (d, d.atF n i)
def D.syncF (d : D) : D × Int :=
 if d.down then (d, 13) else if d.countF.2 = 0 then ({ d.countF.1 with loose := List.replicate d.loose.length false }, 0) else d.countF
def D.armF (d : D) (n : Int) : D × Int := if d.down then (d, 13) else if n < 1 then (d, 2) else ({ d with armed := n }, 0)
theorem D.Ok.count {d : D} {n : Nat} (h : d.Ok n) : (d.countF).1.Ok n := by
 have := h.calls
 have := h.armed
 unfold D.countF
 split
 ·exact ⟨h.now, h.old, h.loose, h.small, h.armed, by show 0 ≤ d.calls + 1; omega⟩
 ·split
  ·exact ⟨h.now, h.old, h.loose, h.small, Int.le_refl 0, by show 0 ≤ d.calls + 1; omega⟩
  ·exact ⟨h.now, h.old, h.loose, h.small, by show 0 ≤ d.armed - 1; omega, by show 0 ≤ d.calls + 1; omega⟩
theorem D.Ok.keep {d : D} {n : Nat} (h : d.Ok n) (i : Nat) (hi : i < n) : (d.keepF i).Ok n := by
 unfold D.keepF
 split
 ·exact h
 ·have e := sec_length h.now hi
  have := h.old
  exact ⟨h.now, by show (setSec d.old i (sec d.now i)).length = _; unfold setSec; rw [lay_length (by omega)]; exact h.old, by show (d.loose.set i true).length = _; rw [List.length_set]; exact h.loose, h.small, h.armed, h.calls⟩
theorem D.keep_now (d : D) (i : Nat) : (d.keepF i).now = d.now := by unfold D.keepF; split <;> rfl
theorem D.Ok.put {d : D} {n : Nat} (h : d.Ok n) (i : Nat) (s : List UInt8) (hi : i < n) : (d.putF i s).Ok n := by
 have hk := h.keep i hi
 have e := fillF_length s
 have := h.now
 exact ⟨by show (setSec d.now i (fillF s)).length = _; unfold setSec; rw [lay_length (by omega)]; exact h.now, hk.old, hk.loose, hk.small, hk.armed, hk.calls⟩
theorem D.Ok.write {d : D} {n : Nat} (h : d.Ok n) (i : Int) (s : List UInt8) : (d.writeF n i s).1.Ok n := by
 unfold D.writeF
 split
 ·rename_i ha
  have hi : 0 ≤ i ∧ i < n := by
   unfold D.atF at ha
   split at ha
   ·cases ha
   ·split at ha
    ·assumption
    ·cases ha
  exact (h.put i.toNat s (by omega)).count
 ·exact h
theorem D.Ok.sync {d : D} {n : Nat} (h : d.Ok n) : (d.syncF).1.Ok n := by
 have hc := h.count
 unfold D.syncF
 split
 ·exact h
 ·split
  ·exact ⟨hc.now, hc.old, by show (List.replicate d.loose.length false).length = n; simp; exact h.loose, hc.small, hc.armed, hc.calls⟩
  ·exact hc
theorem D.Ok.arm {d : D} {n : Nat} (h : d.Ok n) (k : Int) : (d.armF k).1.Ok n := by
 unfold D.armF
 split
 ·exact h
 ·split
  ·exact h
  ·exact ⟨h.now, h.old, h.loose, h.small, by show 0 ≤ k; omega, h.calls⟩
end Go.Proofs.YtbelcgjbhpjnpaaGreat.Dk

/- disk by its contracts: the object; New, works, at, counts, Down, Sectors, Calls, Arm. -/
namespace Go.Proofs.YtbelcgjbhpjnpaaGreat.Dk
open Go.RowKit

/-! whole sectors: loads and stores of an array, kept from the walk's own steps -/
noncomputable def ldArr (w : World) (v : Value) : Result Value := (Instr.loadAt 140 v).run Tryz.prog w
noncomputable def stArr (w : World) (a v : Value) : Result Unit := (Instr.storeAt 140 a v).run Tryz.prog w
theorem exec_ld (ρ : Operand → Value) (dst : Option Tmp) (x : Operand) (t : TypeId) (p : String) (af : Array Edge) (g : Option (Nat × Bool)) (w : World) :
  (execOp ρ { dst := dst, op := .load 140 x, type := t, pos := p, after := af, guard := g }).run Tryz.prog w = (ldArr w (ρ x)).andThen fun v w' => .ok (.value v) w' := by
 simp only [execOp, Sem.run_bind, Sem.run_pure]; rfl
theorem exec_st (ρ : Operand → Value) (dst : Option Tmp) (x y : Operand) (t : TypeId) (p : String) (af : Array Edge) (g : Option (Nat × Bool)) (w : World) :
  (execOp ρ { dst := dst, op := .store 140 x y, type := t, pos := p, after := af, guard := g }).run Tryz.prog w = (stArr w (ρ x) (ρ y)).andThen fun _ w' => .ok .skip w' := by
 simp only [execOp, Sem.run_bind, Sem.run_pure]; rfl
/-- a sector of bytes 0, as a literal lays it -/
noncomputable def zero64 : Value := .agg (bvs (List.replicate 64 0)).toArray
theorem exec_zero (ρ : Operand → Value) (dst : Option Tmp) (t : TypeId) (p : String) (af : Array Edge) (g : Option (Nat × Bool)) (w : World) :
  (execOp ρ { dst := dst, op := .build 140 #[], type := t, pos := p, after := af, guard := g }).run Tryz.prog w = .ok (.value zero64) w := by kernel_rfl
theorem bytes_under : Tryz.prog.underlying 140 = some (.array 64 5) := Tryz.underlying140
theorem bytes_size : (Tryz.prog.info? 140).map (·.size) = some 64 := by kernel_rfl

theorem ldArr_ok {w : World} {g : Nat} {t : TypeId} {l : List Value} (B : Blk w g t l.toArray) (o : Nat) (c : List Value) (hc : c.length = 64) (h : ∀ j v, c[j]? = some v → l[o + j]? = some v) :
  ldArr w (.pointer (some ⟨g, o, none⟩)) = .ok (.agg c.toArray) w := by
 have hl := run_loadCells_list (P := Tryz.prog) w ⟨g, o, none⟩ c (cells_at B o c h)
 rw [hc] at hl
 unfold ldArr Instr.loadAt
 obtain ⟨i, hi, hs⟩ : ∃ i, Tryz.prog.info? 140 = some i ∧ i.size = 64 := by
  have := bytes_size
  cases hq : Tryz.prog.info? 140 with
  | none => rw [hq] at this; cases this
  | some i => rw [hq] at this; exact ⟨i, rfl, by simpa using this⟩
 simp [Instr.sureAddr, loadVar, isAgg, run_underlying bytes_under, sizeOf, typeInfo, hi, hs, hl, Result.andThen]
theorem stArr_ok {w : World} {g : Nat} {t : TypeId} {l : List Value} (B : Blk w g t l.toArray) (o : Nat) (c : List Value) (hc : c.length = 64) (ho : o + 64 ≤ l.length) (h1 : ∀ v ∈ c, v.oneCell' = true) :
  ∃ w', stArr w (.pointer (some ⟨g, o, none⟩)) (.agg c.toArray) = .ok () w' ∧ Blk w' g t (putAt l o c).toArray ∧ Only [g] w w' := by
 have hst := run_storeCells_cells (P := Tryz.prog) g o c 0 w (fun j hj => by rw [B.cell]; simp; omega) (fun j hj => B.frozen _ (by simp; omega)) h1
 refine ⟨w.setCells g o c, ?_, B.setCells c o (by omega), (Only.refl _ _).setCells c o (by simp)⟩
 unfold stArr Instr.storeAt
 obtain ⟨i, hi, hs⟩ : ∃ i, Tryz.prog.info? 140 = some i ∧ i.size = 64 := by
  have := bytes_size
  cases hq : Tryz.prog.info? 140 with
  | none => rw [hq] at this; cases this
  | some i => rw [hq] at this; exact ⟨i, rfl, by simpa using this⟩
 simp only [Nat.add_zero] at hst
 simp [Instr.sureAddr, storeVar, Value.cells, sizeOf, typeInfo, hi, hs, hc, hst, Result.andThen]
end Go.Proofs.YtbelcgjbhpjnpaaGreat.Dk

/- disk by its contracts: the object; works, at, counts, Down, Sectors, Calls, Arm, Loose, Sync. -/
namespace Go.Proofs.YtbelcgjbhpjnpaaGreat.Dk
open Go.RowKit

/-- where a disk lies: its struct, its rows -/
structure Loc where
 b : Nat
 gN : Nat
 gO : Nat
 gL : Nat
def Loc.fp (L : Loc) : List Nat := [L.b, L.gN, L.gO, L.gL]
def bools (l : List Bool) : List Value := l.map Value.bool
@[simp] theorem bools_length (l : List Bool) : (bools l).length = l.length := by simp [bools]
theorem bools_get (l : List Bool) (k : Nat) (h : k < l.length) : (bools l)[k]? = some (.bool (l.getD k false)) := by
 simp [bools, List.getD, h]
theorem bools_set (l : List Bool) (k : Nat) (x : Bool) : (bools l).set k (.bool x) = bools (l.set k x) := by simp [bools]
def fields (L : Loc) (n : Nat) (d : D) : Array Value :=
 #[.slice (some ⟨L.gN, 0, none⟩) n n, .slice (some ⟨L.gO, 0, none⟩) n n, .slice (some ⟨L.gL, 0, none⟩) n n, .int .i64 d.armed, .int .i64 d.calls, .bool d.down]
structure DiskAt (w : World) (L : Loc) (n : Nat) (d : D) : Prop where
 hb : Blk w L.b 111 (fields L n d)
 hN : Blk w L.gN 140 (bvs d.now).toArray
 hO : Blk w L.gO 140 (bvs d.old).toArray
 hL : Blk w L.gL 4 (bools d.loose).toArray
 ne : L.gN ≠ L.gO
 ok : d.Ok n
section
variable {w w' : World} {L : Loc} {n : Nat} {d : D} {S : List Nat}
theorem DiskAt.only (h : DiskAt w L n d) (ho : Only S w w') (hd : ∀ x ∈ L.fp, x ∉ S) : DiskAt w' L n d :=
 ⟨h.hb.only ho (hd _ (by simp [Loc.fp])), h.hN.only ho (hd _ (by simp [Loc.fp])), h.hO.only ho (hd _ (by simp [Loc.fp])), h.hL.only ho (hd _ (by simp [Loc.fp])), h.ne, h.ok⟩
theorem DiskAt.below (h : DiskAt w L n d) (hb : Below w.heap.size w w') : DiskAt w' L n d := h.only (S := []) (.of_below hb) (by simp)
theorem DiskAt.drew (h : DiskAt w L n d) : DiskAt w.drew L n d := ⟨h.hb, h.hN, h.hO, h.hL, h.ne, h.ok⟩
theorem DiskAt.drewN (h : DiskAt w L n d) (k : Nat) : DiskAt (w.drewN k) L n d := ⟨h.hb, h.hN, h.hO, h.hL, h.ne, h.ok⟩
theorem DiskAt.lt (h : DiskAt w L n d) : ∀ x ∈ L.fp, x < w.heap.size := by
 intro x hx
 simp only [Loc.fp, List.mem_cons, List.not_mem_nil, or_false] at hx
 rcases hx with rfl | rfl | rfl | rfl
 ·exact h.hb.lt
 ·exact h.hN.lt
 ·exact h.hO.lt
 ·exact h.hL.lt
theorem DiskAt.bN (h : DiskAt w L n d) : L.b ≠ L.gN := h.hb.ne_ h.hN (by decide)
theorem DiskAt.bO (h : DiskAt w L n d) : L.b ≠ L.gO := h.hb.ne_ h.hO (by decide)
theorem DiskAt.bL (h : DiskAt w L n d) : L.b ≠ L.gL := h.hb.ne_ h.hL (by decide)
theorem DiskAt.LN (h : DiskAt w L n d) : L.gL ≠ L.gN := h.hL.ne_ h.hN (by decide)
theorem DiskAt.LO (h : DiskAt w L n d) : L.gL ≠ L.gO := h.hL.ne_ h.hO (by decide)
theorem DiskAt.f0 (h : DiskAt w L n d) : w.cell? ⟨L.b, 0, none⟩ = some (.slice (some ⟨L.gN, 0, none⟩) n n) := h.hb.cell_some rfl
theorem DiskAt.f1 (h : DiskAt w L n d) : w.cell? ⟨L.b, 1, none⟩ = some (.slice (some ⟨L.gO, 0, none⟩) n n) := h.hb.cell_some rfl
theorem DiskAt.f2 (h : DiskAt w L n d) : w.cell? ⟨L.b, 2, none⟩ = some (.slice (some ⟨L.gL, 0, none⟩) n n) := h.hb.cell_some rfl
theorem DiskAt.f3 (h : DiskAt w L n d) : w.cell? ⟨L.b, 3, none⟩ = some (.int .i64 d.armed) := h.hb.cell_some rfl
theorem DiskAt.f4 (h : DiskAt w L n d) : w.cell? ⟨L.b, 4, none⟩ = some (.int .i64 d.calls) := h.hb.cell_some rfl
theorem DiskAt.f5 (h : DiskAt w L n d) : w.cell? ⟨L.b, 5, none⟩ = some (.bool d.down) := h.hb.cell_some rfl
theorem DiskAt.fz (h : DiskAt w L n d) (i : Nat) (hi : i < 6) : w.frozen? ⟨L.b, i, none⟩ = false := h.hb.frozen i (by simpa [fields] using hi)
/-- new fields -/
theorem DiskAt.head (h : DiskAt w L n d) {d' : D} (B : Blk w' L.b 111 (fields L n d')) (ho : Only [L.b] w w') (e1 : d'.now = d.now) (e2 : d'.old = d.old) (e3 : d'.loose = d.loose) (hok : d'.Ok n) : DiskAt w' L n d' := by
 refine ⟨B, ?_, ?_, ?_, h.ne, hok⟩
 ·rw [e1]; exact h.hN.only ho (by simp; exact fun e => h.bN e.symm)
 ·rw [e2]; exact h.hO.only ho (by simp; exact fun e => h.bO e.symm)
 ·rw [e3]; exact h.hL.only ho (by simp; exact fun e => h.bL e.symm)
theorem Only.fp_b (ho : Only [L.b] w w') : Only L.fp w w' := ho.mono (by simp [Loc.fp])
end
def dp (b : Nat) : Value := .pointer (some ⟨b, 0, none⟩)

theorem works_any {w : World} {L : Loc} {n : Nat} {d : D} (h : DiskAt w L n d) :
  Calls Tryz.prog 77 #[dp L.b] w fun e w' => e = .returned (.int .i64 d.worksF) ∧ w = w' := by
 have f5 := h.f5
 unfold dp D.worksF
 clear h
 cases hd : d.down
 all_goals
  rw [hd] at f5
  go_enter Tryz.func77, Tryz.ntmps77
  go_wp2
  go_ret
  exact ⟨rfl, rfl⟩
theorem works_nil (w : World) :
  Calls Tryz.prog 77 #[.pointer none] w fun e w' => e = .returned (.int .i64 1) ∧ w = w' := by
 go_enter Tryz.func77, Tryz.ntmps77
 go_wp2
 go_ret
 exact ⟨rfl, rfl⟩

theorem at_any {w : World} {L : Loc} {n : Nat} {d : D} (h : DiskAt w L n d) (i : Int) :
  Calls Tryz.prog 108 #[dp L.b, .int .i64 i] w fun e w' => e = .returned (.int .i64 (d.atF n i)) ∧ w = w' := by
 have f0 := h.f0
 have hn := h.ok.small
 have K := Lib.hid (works_any h)
 unfold D.worksF at K
 unfold D.atF
 unfold dp at *
 clear h
 cases hd : d.down
 ·rw [hd] at K
  simp only [Bool.false_eq_true, if_false] at K ⊢
  by_cases hi : 0 ≤ i ∧ i < n
  ·rw [if_pos hi]
   obtain ⟨h0, h1⟩ := hi
   go_enter Tryz.func108, Tryz.ntmps108
   go_wp2_with fail
   refine K.out.mono ?_
   rintro e w1 ⟨rfl, rfl⟩
   go_wp2_with fail
   go_ret
   exact ⟨rfl, rfl⟩
  ·rw [if_neg hi]
   have hi' : i < 0 ∨ (¬ i < 0 ∧ (n : Int) ≤ i) := by omega
   clear hi
   rcases hi' with h1 | ⟨h1, h2⟩
   all_goals
    go_enter Tryz.func108, Tryz.ntmps108
    go_wp2_with fail
    refine K.out.mono ?_
    rintro e w1 ⟨rfl, rfl⟩
    go_wp2_with fail
    go_ret
    exact ⟨rfl, rfl⟩
 ·rw [hd] at K
  simp only [if_true] at K ⊢
  go_enter Tryz.func108, Tryz.ntmps108
  go_wp2_with fail
  refine K.out.mono ?_
  rintro e w1 ⟨rfl, rfl⟩
  go_wp2_with fail
  go_ret
  exact ⟨rfl, rfl⟩
theorem at_nil (i : Int) (w : World) :
  Calls Tryz.prog 108 #[.pointer none, .int .i64 i] w fun e w' => e = .returned (.int .i64 1) ∧ w = w' := by
 go_enter Tryz.func108, Tryz.ntmps108
 go_wp2_with fail
 refine (works_nil _).mono ?_
 rintro e w1 ⟨rfl, rfl⟩
 go_wp2_with fail
 go_ret
 exact ⟨rfl, rfl⟩

/-- one call more; the disk is up when this is called -/
theorem counts_any {w : World} {L : Loc} {n : Nat} {d : D} (h : DiskAt w L n d) (hc : d.calls ≤ 4000000000000000000) (ha : d.armed ≤ 9223372036854775807) :
  Calls Tryz.prog 109 #[dp L.b] w fun e w' => e = .returned (.int .i64 d.countF.2) ∧ DiskAt w' L n d.countF.1 ∧ Only [L.b] w w' := by
 have f3 := h.f3
 have f4 := h.f4
 have z3 := h.fz 3 (by omega)
 have z4 := h.fz 4 (by omega)
 have z5 := h.fz 5 (by omega)
 have f5 := h.f5
 have a0 := h.ok.armed
 have c0 := h.ok.calls
 have H := Lib.hid h
 have B := Lib.hid h.hb
 have OKC := Lib.hid h.ok.count
 clear h
 by_cases h0 : d.armed = 0
 ·have e1 : d.countF = ({ d with calls := d.calls + 1 }, 0) := by unfold D.countF; rw [if_pos h0]
  rw [e1]
  rw [e1] at OKC
  rw [h0] at f3
  have HA := Lib.hid h0
  clear h0 e1
  unfold dp
  go_enter Tryz.func109, Tryz.ntmps109
  go_wp2_with fail
  go_ret
  have o1 : Only [L.b] w (w.setCell ⟨L.b, 4, none⟩ (.int .i64 (d.calls + 1))) := (Only.refl _ _).setCell (by simp) _
  exact ⟨rfl, H.out.head (B.out.set_ 4 _) o1 rfl rfl rfl OKC.out, o1⟩
 ·by_cases h1 : d.armed = 1
  ·have e1 : d.countF = ({ d with calls := d.calls + 1, armed := 0, down := true }, 13) := by unfold D.countF; rw [if_neg h0, if_pos h1]
   rw [e1]
   rw [e1] at OKC
   rw [h1] at f3
   have o1 : Only [L.b] w (((w.setCell ⟨L.b, 4, none⟩ (.int .i64 (d.calls + 1))).setCell ⟨L.b, 3, none⟩ (.int .i64 0)).setCell ⟨L.b, 5, none⟩ (.bool true)) := (((Only.refl _ _).setCell (by simp) _).setCell (by simp) _).setCell (by simp) _
   have D1 := H.out.head (d' := { d with calls := d.calls + 1, armed := 0, down := true }) ((((B.out.set_ 4 (.int .i64 (d.calls + 1))).set_ 3 (.int .i64 0)).set_ 5 (.bool true))) o1 rfl rfl rfl OKC.out
   have K := Lib.hid (works_any D1)
   have D1 := Lib.hid D1
   have O1 := Lib.hid o1
   clear h0 h1 e1 o1
   unfold D.worksF dp at *
   go_enter Tryz.func109, Tryz.ntmps109
   go_wp2_with fail
   refine K.out.mono ?_
   rintro e w1 ⟨rfl, rfl⟩
   go_wp2_with fail
   go_ret
   exact ⟨rfl, D1.out, O1.out⟩
  ·have e1 : d.countF = ({ d with calls := d.calls + 1, armed := d.armed - 1, down := false }, 0) := by unfold D.countF; rw [if_neg h0, if_neg h1]
   rw [e1]
   rw [e1] at OKC
   have o1 : Only [L.b] w (((w.setCell ⟨L.b, 4, none⟩ (.int .i64 (d.calls + 1))).setCell ⟨L.b, 3, none⟩ (.int .i64 (d.armed - 1))).setCell ⟨L.b, 5, none⟩ (.bool false)) := (((Only.refl _ _).setCell (by simp) _).setCell (by simp) _).setCell (by simp) _
   have D1 := H.out.head (d' := { d with calls := d.calls + 1, armed := d.armed - 1, down := false }) ((((B.out.set_ 4 (.int .i64 (d.calls + 1))).set_ 3 (.int .i64 (d.armed - 1))).set_ 5 (.bool false))) o1 rfl rfl rfl OKC.out
   have K := Lib.hid (works_any D1)
   have D1 := Lib.hid D1
   have O1 := Lib.hid o1
   have t0 : (d.armed == 0) = false := by simpa using h0
   have t1 : (d.armed - 1 == 0) = false := by simp; omega
   clear e1 o1
   unfold D.worksF dp at *
   go_enter Tryz.func109, Tryz.ntmps109
   go_wp2_with fail
   refine K.out.mono ?_
   rintro e w1 ⟨rfl, rfl⟩
   go_wp2_with fail
   go_ret
   exact ⟨rfl, D1.out, O1.out⟩
end Go.Proofs.YtbelcgjbhpjnpaaGreat.Dk

/- disk by its contracts: Read, Write. -/
namespace Go.Proofs.YtbelcgjbhpjnpaaGreat.Dk
open Go.RowKit
attribute [local go_sem ↓] exec_ld exec_st exec_zero

theorem sec_cells {F : List UInt8} {k : Nat} (j : Nat) (v : Value) (h : (bvs (sec F k))[j]? = some v) : (bvs F)[k * 64 + j]? = some v := by
 rw [bvs_get, sec_get] at h
 rw [bvs_get]
 split at h
 ·rw [show k * 64 + j = 64 * k + j by omega]; exact h
 ·simp at h
def D.readF (d : D) (n : Nat) (i : Int) : List UInt8 × Int := if d.atF n i = 0 then (sec d.now i.toNat, 0) else ([], d.atF n i)
theorem atF_in {d : D} {n : Nat} {i : Int} (h : d.atF n i = 0) : 0 ≤ i ∧ i < n := by
 unfold D.atF at h
 split at h
 ·cases h
 ·split at h
  ·assumption
  ·cases h
theorem atF_range (d : D) (n : Nat) (i : Int) : d.atF n i = 0 ∨ ((d.atF n i == 0) = false) := by
 by_cases h : d.atF n i = 0
 ·exact .inl h
 ·exact .inr (by simpa using h)

set_option maxHeartbeats 400000 in
theorem read_any {w : World} {L : Loc} {n : Nat} {d : D} (h : DiskAt w L n d) (i : Int) :
  Calls Tryz.prog 85 #[dp L.b, .int .i64 i] w fun e w' => e = .returned (.tuple #[.string ⟨(d.readF n i).1.toArray⟩, .int .i64 (d.readF n i).2]) ∧ w = w' := by
 have K := Lib.hid (at_any h i)
 have hn := h.ok.small
 rcases atF_range d n i with ha | ha
 ·have hi := atF_in ha
  have e1 : d.readF n i = (sec d.now i.toNat, 0) := by unfold D.readF; rw [if_pos ha]
  rw [e1]
  rw [ha] at K
  obtain ⟨k, rfl⟩ := Int.eq_ofNat_of_zero_le hi.1
  have hk : k < n := by omega
  have f0 := h.f0
  have hst := fun (a b : Nat) (ha : 64 = a) (hb : k * 64 = b) => (run_string_of (P := Tryz.prog) w 141 9 5 Tryz.underlying141 Tryz.underlying5 Tryz.underlying9 ⟨L.gN, b, none⟩ a a (sec d.now k) (ha ▸ sec_length h.ok.now hk) (hb ▸ cells_at h.hN (k * 64) _ sec_cells))
  have HS := Lib.hid (hst 64 (k * 64) rfl rfl)
  clear hst e1 ha hi h
  unfold dp at *
  go_enter Tryz.func85, Tryz.ntmps85
  go_wp2_with fail
  refine K.out.mono ?_
  rintro e w1 ⟨rfl, rfl⟩
  go_wp2_with fail
  rw [HS.out]
  go_wp2_with fail
  go_ret2
  exact ⟨rfl, rfl⟩
 ·have e1 : d.readF n i = ([], d.atF n i) := by unfold D.readF; rw [if_neg (by simpa using ha)]
  rw [e1]
  generalize d.atF n i = x at *
  clear e1 h
  unfold dp at *
  go_enter Tryz.func85, Tryz.ntmps85
  go_wp2_with fail
  refine K.out.mono ?_
  rintro e w1 ⟨rfl, rfl⟩
  go_wp2_with fail
  go_ret2
  exact ⟨rfl, rfl⟩
theorem read_nil (i : Int) (w : World) :
  Calls Tryz.prog 85 #[.pointer none, .int .i64 i] w fun e w' => e = .returned (.tuple #[.string ⟨#[]⟩, .int .i64 1]) ∧ w = w' := by
 go_enter Tryz.func85, Tryz.ntmps85
 go_wp2_with fail
 refine (at_nil _ _).mono ?_
 rintro e w1 ⟨rfl, rfl⟩
 go_wp2_with fail
 go_ret2
 exact ⟨rfl, rfl⟩

theorem zeros_put (F : List UInt8) (s : ByteArray) {n k : Nat} (hF : F.length = 64 * n) (hk : k < n) :
  putAt (putAt (bvs F) (k * 64) (bvs (List.replicate 64 0))) (k * 64) (bvs (s.data.toList.take (Nat.min s.size 64))) = bvs (setSec F k (fillF s.data.toList)) := by
 rw [bvs_lay, bvs_lay, ← zero_then F s.data.toList hF hk]
 have e : s.data.toList.take (Nat.min s.size 64) = s.data.toList.take 64 := by
  rcases Nat.le_total s.size 64 with h | h
  ·rw [show Nat.min s.size 64 = s.size from Nat.min_eq_left h, List.take_of_length_le (by simp), List.take_of_length_le (by simpa using h)]
  ·rw [show Nat.min s.size 64 = 64 from Nat.min_eq_right h]
 rw [e, show k * 64 = 64 * k from Nat.mul_comm _ _]
 rfl
theorem size_u8 : (Tryz.prog.info? 5).map (·.size) = some 1 := by kernel_rfl
/-- a sector's two stores: bytes 0, then a text's -/
theorem put_now {w : World} {L : Loc} {n : Nat} {d : D} (h : DiskAt w L n d) (k : Nat) (hk : k < n) (s : ByteArray) :
  ∃ w1, stArr w (.pointer (some ⟨L.gN, k * 64, none⟩)) zero64 = .ok () w1 ∧ Only [L.gN] w w1 ∧
   ∃ w2, (Builtin.copy_ #[141, 9] 3 #[.slice (some ⟨L.gN, k * 64, none⟩) 64 64, .string s]).run Tryz.prog w1 = .ok (goInt (Nat.min s.size 64)) w2 ∧ DiskAt w2 L n { d with now := setSec d.now k (fillF s.data.toList) } ∧ Only [L.gN] w w2 := by
 have hlen := h.ok.now
 obtain ⟨w1, e1, B1, o1⟩ := stArr_ok h.hN (k * 64) (bvs (List.replicate 64 0)) (by simp) (by simp; omega) (bvs_one _)
 obtain ⟨w2, e2, B2, o2⟩ := copy_string (P := Tryz.prog) B1 141 9 3 5 (k * 64) 64 64 s (Nat.min s.size 64) Tryz.underlying141 size_u8 rfl (by rw [putAt_length (by simp; omega)]; have hm : Nat.min s.size 64 ≤ 64 := Nat.min_le_right _ _; rw [bvs_length, hlen]; omega)
 rw [zeros_put _ _ hlen hk] at B2
 have o := o1.trans o2
 refine ⟨w1, e1, o1, w2, e2, ⟨h.hb.only o (by simp; exact h.bN), B2, h.hO.only o (by simp; exact fun e => h.ne e.symm), h.hL.only o (by simp; exact h.LN), h.ne, ?_⟩, o⟩
 have := fillF_length s.data.toList
 exact ⟨by show (setSec d.now k _).length = _; unfold setSec; rw [lay_length (by omega)]; exact hlen, h.ok.old, h.ok.loose, h.ok.small, h.ok.armed, h.ok.calls⟩
/-- what stands in the field 'now' behind a sector's first store -/
theorem f0_far {w w' : World} {L : Loc} {n : Nat} {d : D} (h : DiskAt w L n d) (o : Only [L.gN] w w') : w'.cell? ⟨L.b, 0, none⟩ = some (.slice (some ⟨L.gN, 0, none⟩) n n) :=
 (o.cell h.hb.lt (by simp; exact h.bN)).trans h.f0

set_option maxRecDepth 100000 in
set_option maxHeartbeats 2000000 in
theorem write_new {w : World} {L : Loc} {n : Nat} {d : D} (h : DiskAt w L n d) (k : Nat) (hk : k < n) (s : ByteArray) (ha : d.atF n k = 0) (hc : d.calls ≤ 4000000000000000000) (hr : d.armed ≤ 9223372036854775807) (hl : d.loose.getD k false = false) :
  Calls Tryz.prog 37 #[dp L.b, .int .i64 k, .string s] w fun e w' => e = .returned (.int .i64 ((d.putF k s.data.toList).countF).2) ∧ DiskAt w' L n ((d.putF k s.data.toList).countF).1 ∧ Only L.fp w w' := by
 have K := Lib.hid (at_any h k)
 have hn := h.ok.small
 rw [ha] at K
 have f0 := h.f0
 have f1 := h.f1
 have f2 := h.f2
 have cl : w.cell? ⟨L.gL, k, none⟩ = some (.bool false) := by
  rw [← hl]
  refine h.hL.cell_some ?_
  rw [List.getElem?_toArray, bools_get _ _ (by rw [h.ok.loose]; exact hk)]
 have hkeep : d.keepF k = { d with old := setSec d.old k (sec d.now k), loose := d.loose.set k true } := by unfold D.keepF; rw [hl]; rfl
 have hput : d.putF k s.data.toList = { d.keepF k with now := setSec (d.keepF k).now k (fillF s.data.toList) } := by unfold D.putF; rw [D.keep_now]
 have DC : (d.keepF k).calls = d.calls := by rw [hkeep]
 have DA : (d.keepF k).armed = d.armed := by rw [hkeep]
 have hok := h.ok.keep k hk
 rw [hput]
 have hld : ldArr w.drew (.pointer (some ⟨L.gN, k * 64, none⟩)) = .ok (.agg (bvs (sec d.now k)).toArray) w.drew := ldArr_ok h.hN.drew (k * 64) _ (by rw [bvs_length, sec_length h.ok.now hk]) sec_cells
 obtain ⟨w2, hst, B2, o2⟩ := stArr_ok h.hO.drew (k * 64) (bvs (sec d.now k)) (by rw [bvs_length, sec_length h.ok.now hk]) (by have := h.ok.old; simp; omega) (bvs_one _)
 have cl2 : w2.cell? ⟨L.gL, k, none⟩ = some (.bool false) := (o2.cell (cell_lt' cl) (by simp; exact h.LO)).trans cl
 have fl2 : w2.frozen? ⟨L.gL, k, none⟩ = false := (o2.frozen (cell_lt' cl) (by simp; exact h.LO)).trans (h.hL.frozen k (by simp; rw [h.ok.loose]; exact hk))
 have o2' : Only L.fp w w2 := ⟨o2.os, o2.tape, o2.output, o2.size, fun b hb hn => o2.block b hb (by simp [Loc.fp] at hn ⊢; exact hn.2.2.1)⟩
 have hD : DiskAt (w2.setCell ⟨L.gL, k, none⟩ (.bool true)) L n (d.keepF k) := by
  rw [hkeep] at hok ⊢
  have B3 := ((h.hL.drew.only o2 (by simp; exact h.LO)).set_ k (.bool true))
  rw [List.setIfInBounds_toArray, bools_set] at B3
  rw [bvs_lay] at B2
  refine ⟨(h.hb.drew.only o2 (by simp; exact h.bO)).far (by exact h.bL) _, (h.hN.drew.only o2 (by simp; exact h.ne)).far (by exact fun e => h.LN e.symm) _, ?_, B3, h.ne, hok⟩
  have := B2.far (p := ⟨L.gL, k, none⟩) (fun e => h.LO e.symm) (.bool true)
  rwa [show k * 64 = 64 * k from Nat.mul_comm _ _] at this
 have oD : Only L.fp w (w2.setCell ⟨L.gL, k, none⟩ (.bool true)) := o2'.setCell (by simp [Loc.fp]) _
 clear hkeep hput hok ha B2 o2 o2' h
 generalize d.keepF k = d1 at *
 unfold dp at *
 go_enter Tryz.func37, Tryz.ntmps37
 go_wp2_with fail
 refine K.out.mono ?_
 rintro e w1 ⟨rfl, rfl⟩
 go_wp2_with fail
 go_region
 clear hld hst f0 f1 f2 cl cl2 fl2
 generalize w2.setCell ⟨L.gL, k, none⟩ (.bool true) = w3 at *
 have f0' := hD.f0
 obtain ⟨w4, st4, o4, w5, cp5, D5, o5⟩ := put_now hD k hk s
 have f04 := f0_far hD o4
 have CP := Lib.hid cp5
 have KC := Lib.hid (counts_any D5 (by rw [DC]; exact hc) (by rw [DA]; exact hr))
 have HD := Lib.hid D5
 have O5 := Lib.hid (oD.trans (o5.mono (S' := L.fp) (by simp [Loc.fp])))
 clear hD oD cp5 D5 o4 o5 DC DA
 unfold dp at KC
 go_wp2_with fail
 rw [CP.out]
 go_wp2_with fail
 refine KC.out.mono ?_
 rintro e w6 ⟨rfl, D6, o6⟩
 go_wp2_with fail
 go_ret
 exact ⟨rfl, D6, O5.out.trans (o6.mono (by simp [Loc.fp]))⟩
set_option maxRecDepth 100000 in
set_option maxHeartbeats 2000000 in
theorem write_old {w : World} {L : Loc} {n : Nat} {d : D} (h : DiskAt w L n d) (k : Nat) (hk : k < n) (s : ByteArray) (ha : d.atF n k = 0) (hc : d.calls ≤ 4000000000000000000) (hr : d.armed ≤ 9223372036854775807) (hl : d.loose.getD k false = true) :
  Calls Tryz.prog 37 #[dp L.b, .int .i64 k, .string s] w fun e w' => e = .returned (.int .i64 ((d.putF k s.data.toList).countF).2) ∧ DiskAt w' L n ((d.putF k s.data.toList).countF).1 ∧ Only L.fp w w' := by
 have K := Lib.hid (at_any h k)
 have hn := h.ok.small
 rw [ha] at K
 have f0 := h.f0
 have f1 := h.f1
 have f2 := h.f2
 have cl : w.cell? ⟨L.gL, k, none⟩ = some (.bool true) := by
  rw [← hl]
  refine h.hL.cell_some ?_
  rw [List.getElem?_toArray, bools_get _ _ (by rw [h.ok.loose]; exact hk)]
 have hkeep : d.keepF k = d := by unfold D.keepF; rw [hl]; rfl
 have hput : d.putF k s.data.toList = { d with now := setSec d.now k (fillF s.data.toList) } := by unfold D.putF; rw [hkeep]
 rw [hput]
 have hD := h
 have oD : Only L.fp w w := Only.refl _ _
 have DC : d.calls = d.calls := rfl
 have DA : d.armed = d.armed := rfl
 have HDC := Lib.hid DC
 clear hkeep hput ha h DC DA
 unfold dp at *
 have f0' := hD.f0
 obtain ⟨w4, st4, o4, w5, cp5, D5, o5⟩ := put_now hD k hk s
 have f04 := f0_far hD o4
 have CP := Lib.hid cp5
 have KC := Lib.hid (counts_any D5 hc hr)
 have HD := Lib.hid D5
 have O5 := Lib.hid (oD.trans (o5.mono (S' := L.fp) (by simp [Loc.fp])))
 clear hD oD cp5 D5 o4 o5
 unfold dp at KC
 go_enter Tryz.func37, Tryz.ntmps37
 go_wp2_with fail
 refine K.out.mono ?_
 rintro e w1 ⟨rfl, rfl⟩
 go_wp2_with fail
 rw [CP.out]
 go_wp2_with fail
 refine KC.out.mono ?_
 rintro e w6 ⟨rfl, D6, o6⟩
 go_wp2_with fail
 go_ret
 exact ⟨rfl, D6, O5.out.trans (o6.mono (by simp [Loc.fp]))⟩
end Go.Proofs.YtbelcgjbhpjnpaaGreat.Dk

/- disk by its contracts: Write whole, Sync, Arm, Down, Sectors, Calls, Loose. -/
namespace Go.Proofs.YtbelcgjbhpjnpaaGreat.Dk
open Go.RowKit

theorem write_any {w : World} {L : Loc} {n : Nat} {d : D} (h : DiskAt w L n d) (i : Int) (s : ByteArray) (hc : d.calls ≤ 4000000000000000000) (hr : d.armed ≤ 9223372036854775807) :
  Calls Tryz.prog 37 #[dp L.b, .int .i64 i, .string s] w fun e w' => e = .returned (.int .i64 (d.writeF n i s.data.toList).2) ∧ DiskAt w' L n (d.writeF n i s.data.toList).1 ∧ Only L.fp w w' := by
 rcases atF_range d n i with ha | ha
 ·have hi := atF_in ha
  obtain ⟨k, rfl⟩ := Int.eq_ofNat_of_zero_le hi.1
  have e1 : d.writeF n k s.data.toList = (d.putF k s.data.toList).countF := by unfold D.writeF; rw [if_pos ha]; rfl
  rw [e1]
  cases hl : d.loose.getD k false
  ·exact write_new h k (by omega) s ha hc hr hl
  ·exact write_old h k (by omega) s ha hc hr hl
 ·have e1 : d.writeF n i s.data.toList = (d, d.atF n i) := by unfold D.writeF; rw [if_neg (by simpa using ha)]
  rw [e1]
  have K := Lib.hid (at_any h i)
  have H := Lib.hid h
  generalize d.atF n i = x at *
  clear e1 h
  unfold dp at *
  go_enter Tryz.func37, Tryz.ntmps37
  go_wp2_with fail
  refine K.out.mono ?_
  rintro e w1 ⟨rfl, rfl⟩
  go_wp2_with fail
  go_ret
  exact ⟨rfl, H.out, Only.refl _ _⟩
theorem write_nil (i : Int) (s : ByteArray) (w : World) :
  Calls Tryz.prog 37 #[.pointer none, .int .i64 i, .string s] w fun e w' => e = .returned (.int .i64 1) ∧ w = w' := by
 go_enter Tryz.func37, Tryz.ntmps37
 go_wp2_with fail
 refine (at_nil _ _).mono ?_
 rintro e w1 ⟨rfl, rfl⟩
 go_wp2_with fail
 go_ret
 exact ⟨rfl, rfl⟩

theorem zeroCells_one (z : Value) (n : Nat) : (Builtin.zeroCells #[z] n).toList = List.replicate n z := by
 unfold Builtin.zeroCells
 apply List.ext_getElem
 ·simp
 ·intro i h1 h2
  simp [Nat.mod_one]
theorem putAt_all (l c : List Value) (h : l.length = c.length) : putAt l 0 c = c := by
 simp [putAt, h]
/-- clear(s), s a whole block of one-cell elements -/
theorem clear_blk {P : Program} {w : World} {g : Nat} {t T e : TypeId} {l : List Value} (B : Blk w g t l.toArray) (ht : P.underlying T = some (.slice e)) {z : Value} (hz : ∀ w, (zeroValue e).run P w = .ok z w) (h1 : z.cells = #[z]) (hz1 : z.oneCell' = true) (ty : TypeId) (n c : Nat) (hn : l.length = n) :
  ∃ w', (Builtin.clear_ #[T] ty #[.slice (some ⟨g, 0, none⟩) n c]).run P w = .ok (.tuple #[]) w' ∧ Blk w' g t (List.replicate n z).toArray ∧ Only [g] w w' := by
 rcases Nat.eq_zero_or_pos n with h0 | h0
 ·subst h0
  have : l = [] := List.eq_nil_of_length_eq_zero hn
  subst this
  exact ⟨w, by simp [Builtin.clear_, run_underlying ht], B, Only.refl _ _⟩
 ·have hst := run_storeCells_cells (P := P) g 0 (List.replicate n z) 0 w (fun j hj => by rw [B.cell]; simp at hj ⊢; omega) (fun j hj => B.frozen _ (by simp at hj ⊢; omega)) (by intro v hv; rw [(List.mem_replicate.1 hv).2]; exact hz1)
  refine ⟨w.setCells g 0 (List.replicate n z), ?_, ?_, (Only.refl _ _).setCells _ 0 (by simp)⟩
  ·obtain ⟨m, rfl⟩ : ∃ m, n = m + 1 := ⟨n - 1, by omega⟩
   simp only [Nat.add_zero] at hst
   simp [Builtin.clear_, run_underlying ht, hz, h1, zeroCells_one, hst, Result.andThen]
  ·have := B.setCells (List.replicate n z) 0 (by simp; omega)
   rwa [putAt_all _ _ (by simp; omega)] at this

set_option maxHeartbeats 1000000 in
theorem sync_any {w : World} {L : Loc} {n : Nat} {d : D} (h : DiskAt w L n d) (hc : d.calls ≤ 4000000000000000000) (hr : d.armed ≤ 9223372036854775807) :
  Calls Tryz.prog 98 #[dp L.b] w fun e w' => e = .returned (.int .i64 d.syncF.2) ∧ DiskAt w' L n d.syncF.1 ∧ Only L.fp w w' := by
 have K := Lib.hid (works_any h)
 have KC := Lib.hid (counts_any h hc hr)
 have HOK := Lib.hid h.ok.sync
 unfold D.worksF at K
 cases hd : d.down
 ·rw [hd] at K
  simp only [Bool.false_eq_true, if_false] at K
  by_cases h0 : d.countF.2 = 0
  ·have e1 : d.syncF = ({ d.countF.1 with loose := List.replicate d.loose.length false }, 0) := by
    unfold D.syncF; rw [hd, if_neg (by simp), if_pos h0]
   have hll := h.ok.loose
   rw [hll] at e1
   rw [e1]
   rw [e1] at HOK
   rw [h0] at KC
   have hlo : d.countF.1.loose.length = n := by
    have := h.ok.count.loose; exact this
   clear e1 h0 hd h hll
   generalize d.countF.1 = d1 at *
   unfold dp at *
   go_enter Tryz.func98, Tryz.ntmps98
   go_wp2_with fail
   refine K.out.mono ?_
   rintro e w1 ⟨rfl, rfl⟩
   go_wp2_with fail
   refine KC.out.mono ?_
   rintro e w2 ⟨rfl, D2, o2⟩
   have f2 := D2.f2
   obtain ⟨w3, ec, B3, o3⟩ := clear_blk (P := Tryz.prog) D2.hL Tryz.underlying36 (z := .bool false) (fun _ => by kernel_rfl) rfl rfl 0 n n (by simpa using hlo)
   have EC := Lib.hid ec
   clear ec hlo
   go_wp2_with fail
   rw [EC.out]
   go_wp2_with fail
   go_ret
   refine ⟨rfl, ⟨D2.hb.only o3 (by simp; exact D2.bL), D2.hN.only o3 (by simp; exact fun e => D2.LN e.symm), D2.hO.only o3 (by simp; exact fun e => D2.LO e.symm), ?_, D2.ne, HOK.out⟩, (o2.mono (by simp [Loc.fp])).trans (o3.mono (by simp [Loc.fp]))⟩
   simpa [bools] using B3
  ·have e1 : d.syncF = d.countF := by
    unfold D.syncF; rw [hd, if_neg (by simp), if_neg h0]
   rw [e1]
   have hne : (d.countF.2 == 0) = false := by simpa using h0
   generalize d.countF = dd at *
   clear e1 h0 hd h
   obtain ⟨d1, x⟩ := dd
   simp only at hne KC
   unfold dp at *
   go_enter Tryz.func98, Tryz.ntmps98
   go_wp2_with fail
   refine K.out.mono ?_
   rintro e w1 ⟨rfl, rfl⟩
   go_wp2_with fail
   refine KC.out.mono ?_
   rintro e w2 ⟨rfl, D2, o2⟩
   go_wp2_with fail
   go_ret
   exact ⟨rfl, D2, o2.mono (by simp [Loc.fp])⟩
 ·rw [hd] at K
  simp only [if_true] at K
  have e1 : d.syncF = (d, 13) := by unfold D.syncF; rw [hd, if_pos rfl]
  rw [e1]
  have H := Lib.hid h
  clear e1 hd h
  unfold dp at *
  go_enter Tryz.func98, Tryz.ntmps98
  go_wp2_with fail
  refine K.out.mono ?_
  rintro e w1 ⟨rfl, rfl⟩
  go_wp2_with fail
  go_ret
  exact ⟨rfl, H.out, Only.refl _ _⟩
theorem sync_nil (w : World) :
  Calls Tryz.prog 98 #[.pointer none] w fun e w' => e = .returned (.int .i64 1) ∧ w = w' := by
 go_enter Tryz.func98, Tryz.ntmps98
 go_wp2_with fail
 refine (works_nil _).mono ?_
 rintro e w1 ⟨rfl, rfl⟩
 go_wp2_with fail
 go_ret
 exact ⟨rfl, rfl⟩

theorem arm_any {w : World} {L : Loc} {n : Nat} {d : D} (h : DiskAt w L n d) (k : Int) :
  Calls Tryz.prog 18 #[dp L.b, .int .i64 k] w fun e w' => e = .returned (.int .i64 (d.armF k).2) ∧ DiskAt w' L n (d.armF k).1 ∧ Only L.fp w w' := by
 have K := Lib.hid (works_any h)
 have HOK := Lib.hid (h.ok.arm k)
 unfold D.worksF at K
 cases hd : d.down
 ·rw [hd] at K
  simp only [Bool.false_eq_true, if_false] at K
  by_cases hk : k < 1
  ·have e1 : d.armF k = (d, 2) := by unfold D.armF; rw [hd, if_neg (by simp), if_pos hk]
   rw [e1]
   have H := Lib.hid h
   clear e1 hd h
   unfold dp at *
   go_enter Tryz.func18, Tryz.ntmps18
   go_wp2_with fail
   refine K.out.mono ?_
   rintro e w1 ⟨rfl, rfl⟩
   go_wp2_with fail
   go_ret
   exact ⟨rfl, H.out, Only.refl _ _⟩
  ·have e1 : d.armF k = ({ d with armed := k }, 0) := by unfold D.armF; rw [hd, if_neg (by simp), if_neg hk]
   rw [e1]
   rw [e1] at HOK
   have H := Lib.hid h
   have f3 := h.f3
   have z3 := h.fz 3 (by omega)
   clear e1 hd h
   unfold dp at *
   go_enter Tryz.func18, Tryz.ntmps18
   go_wp2_with fail
   refine K.out.mono ?_
   rintro e w1 ⟨rfl, rfl⟩
   go_wp2_with fail
   go_ret
   have o1 : Only [L.b] w (w.setCell ⟨L.b, 3, none⟩ (.int .i64 k)) := (Only.refl _ _).setCell (by simp) _
   exact ⟨rfl, H.out.head (d' := { d with armed := k }) (H.out.hb.set_ 3 _) o1 rfl rfl rfl HOK.out, o1.mono (by simp [Loc.fp])⟩
 ·rw [hd] at K
  simp only [if_true] at K
  have e1 : d.armF k = (d, 13) := by unfold D.armF; rw [hd, if_pos rfl]
  rw [e1]
  have H := Lib.hid h
  clear e1 hd h
  unfold dp at *
  go_enter Tryz.func18, Tryz.ntmps18
  go_wp2_with fail
  refine K.out.mono ?_
  rintro e w1 ⟨rfl, rfl⟩
  go_wp2_with fail
  go_ret
  exact ⟨rfl, H.out, Only.refl _ _⟩
theorem arm_nil (k : Int) (w : World) :
  Calls Tryz.prog 18 #[.pointer none, .int .i64 k] w fun e w' => e = .returned (.int .i64 1) ∧ w = w' := by
 go_enter Tryz.func18, Tryz.ntmps18
 go_wp2_with fail
 refine (works_nil _).mono ?_
 rintro e w1 ⟨rfl, rfl⟩
 go_wp2_with fail
 go_ret
 exact ⟨rfl, rfl⟩
theorem down_any {w : World} {L : Loc} {n : Nat} {d : D} (h : DiskAt w L n d) :
  Calls Tryz.prog 20 #[dp L.b] w fun e w' => e = .returned (.bool d.down) ∧ w = w' := by
 have f5 := h.f5
 unfold dp
 go_enter Tryz.func20, Tryz.ntmps20
 go_wp2
 go_ret
 exact ⟨rfl, rfl⟩
theorem down_nil (w : World) :
  Calls Tryz.prog 20 #[.pointer none] w fun e w' => e = .returned (.bool false) ∧ w = w' := by
 go_enter Tryz.func20, Tryz.ntmps20
 go_wp2
 go_ret
 exact ⟨rfl, rfl⟩
theorem sectors_any {w : World} {L : Loc} {n : Nat} {d : D} (h : DiskAt w L n d) :
  Calls Tryz.prog 39 #[dp L.b] w fun e w' => e = .returned (.int .i64 n) ∧ w = w' := by
 have f0 := h.f0
 unfold dp
 go_enter Tryz.func39, Tryz.ntmps39
 go_wp2
 go_ret
 exact ⟨rfl, rfl⟩
theorem sectors_nil (w : World) :
  Calls Tryz.prog 39 #[.pointer none] w fun e w' => e = .returned (.int .i64 0) ∧ w = w' := by
 go_enter Tryz.func39, Tryz.ntmps39
 go_wp2
 go_ret
 exact ⟨rfl, rfl⟩
end Go.Proofs.YtbelcgjbhpjnpaaGreat.Dk

/- disk by its contracts: Loose, New, what is left of a loose sector. -/
namespace Go.Proofs.YtbelcgjbhpjnpaaGreat.Dk
open Go.RowKit
attribute [local go_sem ↓] exec_ld exec_st exec_zero

def looseTo (l : List Bool) (k : Nat) : Nat := (l.take k).count true
theorem looseTo_succ (l : List Bool) (k : Nat) (h : k < l.length) : looseTo l (k + 1) = looseTo l k + if l.getD k false then 1 else 0 := by
 unfold looseTo
 rw [List.take_succ_eq_append_getElem h, List.count_append]
 have e : l.getD k false = l[k] := by simp [List.getD, List.getElem?_eq_getElem h]
 rw [e]
 cases l[k] <;> simp
theorem looseTo_le (l : List Bool) (k : Nat) : looseTo l k ≤ k := by
 unfold looseTo
 have := List.count_le_length (a := true) (l := l.take k)
 simp at this; omega
theorem new_no (n : Int) (w : World) (h : n < 1 ∨ 4096 < n) :
  Calls Tryz.prog 55 #[.int .i64 n] w fun e w' => e = .returned (.tuple #[.pointer none, .int .i64 2]) ∧ w = w' := by
 have h' : n < 1 ∨ (¬ n < 1 ∧ 4096 < n) := by omega
 clear h
 rcases h' with h | ⟨h, h1⟩
 all_goals
  go_enter Tryz.func55, Tryz.ntmps55
  go_wp2
  go_ret2
  exact ⟨rfl, rfl⟩
def D.zero (n : Nat) : D := { now := List.replicate (64 * n) 0, old := List.replicate (64 * n) 0, loose := List.replicate n false, armed := 0, calls := 0, down := false }
theorem info_bytes : (Tryz.prog.info? 140).map (fun i => (i.zero, i.size, i.bytes)) = some (some zero64, 64, 64) := by kernel_rfl
theorem info_bool : (Tryz.prog.info? 4).map (fun i => (i.zero, i.size, i.bytes)) = some (some (.bool false), 1, 1) := by kernel_rfl
theorem madeCells_zeros (n : Nat) : madeCells zero64.cells (n * 64) = (bvs (List.replicate (64 * n) 0)).toArray := by
 have h0 : zero64.cells = (List.replicate 64 (Value.int .u8 0)).toArray := by
  show (bvs (List.replicate 64 0)).toArray = _
  rw [bvs, List.map_replicate]; rfl
 have hz : ∀ k, k < 64 → zero64.cells[k]! = .int .u8 0 := by
  intro k h
  rw [h0, getElem!_pos _ k (by rw [List.size_toArray, List.length_replicate]; exact h), List.getElem_toArray, List.getElem_replicate]
 have hs : zero64.cells.size = 64 := by rw [h0, List.size_toArray, List.length_replicate]
 apply Array.ext
 ·simp [size_madeCells]; omega
 ·intro i h1 h2
  simp only [madeCells, hs]
  rw [Array.getElem_map, Array.getElem_range, hz _ (Nat.mod_lt _ (by decide))]
  simp [bvs, bv]
def rowN (n : Nat) : Obj := .cells (bvs (List.replicate (64 * n) 0)).toArray 140
def rowL (n : Nat) : Obj := .cells (bools (List.replicate n false)).toArray 4
theorem make_rows (n : Nat) (hn : n ≤ 4096) (w : World) :
  (Instr.makeSlice 109 (.int .i64 n) (.int .i64 n)).run Tryz.prog w = .ok (.slice (some ⟨w.heap.size, 0, none⟩) n n) (w.alloc (rowN n)) := by
 obtain ⟨i0, hi, hz0, hz1, hz2⟩ := info_parts info_bytes
 have h := run_make (P := Tryz.prog) w 109 140 i0 zero64 Tryz.underlying109 hi hz0 .i64 .i64 n n (by omega) (Int.le_refl _) (by rw [hz2]; omega) (by omega)
 rw [h, hz1]
 simp only [Int.toNat_natCast, madeCells_zeros]
 rfl
theorem make_loose (n : Nat) (hn : n ≤ 4096) (w : World) :
  (Instr.makeSlice 36 (.int .i64 n) (.int .i64 n)).run Tryz.prog w = .ok (.slice (some ⟨w.heap.size, 0, none⟩) n n) (w.alloc (rowL n)) := by
 obtain ⟨i0, hi, hz0, hz1, hz2⟩ := info_parts info_bool
 have h := run_make (P := Tryz.prog) w 36 4 i0 (.bool false) Tryz.underlying36 hi hz0 .i64 .i64 n n (by omega) (Int.le_refl _) (by rw [hz2]; omega) (by omega)
 rw [h, hz1]
 have e : madeCells (Value.bool false).cells (((n : Int).toNat) * 1) = (bools (List.replicate n false)).toArray := by
  show madeCells #[Value.bool false] (n * 1) = _
  rw [Nat.mul_one, madeCells_one]; simp [bools]
 rw [e]
 rfl
theorem four (w : World) (a b c d : Obj) : ((((w.alloc a).alloc b).alloc c).alloc d).heap[w.heap.size]? = some a ∧ ((((w.alloc a).alloc b).alloc c).alloc d).heap[w.heap.size + 1]? = some b ∧ ((((w.alloc a).alloc b).alloc c).alloc d).heap[w.heap.size + 1 + 1]? = some c ∧ ((((w.alloc a).alloc b).alloc c).alloc d).heap[w.heap.size + 1 + 1 + 1]? = some d := by
 have s1 : (w.alloc a).heap.size = w.heap.size + 1 := by simp
 have s2 : ((w.alloc a).alloc b).heap.size = w.heap.size + 1 + 1 := by simp
 have s3 : (((w.alloc a).alloc b).alloc c).heap.size = w.heap.size + 1 + 1 + 1 := by simp
 have e2 := heap_alloc_new (w.alloc a) b
 have e3 := heap_alloc_new ((w.alloc a).alloc b) c
 have e4 := heap_alloc_new (((w.alloc a).alloc b).alloc c) d
 rw [s1] at e2
 rw [s2] at e3
 rw [s3] at e4
 exact ⟨(Below.heap_alloc _ d _ (by omega)).trans ((Below.heap_alloc _ c _ (by omega)).trans ((Below.heap_alloc _ b _ (by omega)).trans (heap_alloc_new w a))), (Below.heap_alloc _ d _ (by omega)).trans ((Below.heap_alloc _ c _ (by omega)).trans e2), (Below.heap_alloc _ d _ (by omega)).trans e3, e4⟩
theorem below4 (w : World) (a b c d : Obj) : Below w.heap.size w ((((w.alloc a).alloc b).alloc c).alloc d).drew :=
 (((((Below.refl _ _).alloc (Nat.le_refl _) _).alloc (by simp) _).alloc (by simp; omega) _).alloc (by simp; omega) _).drew
theorem zero_ok (n : Nat) (hn : n ≤ 4096) : (D.zero n).Ok n := ⟨by simp [D.zero], by simp [D.zero], by simp [D.zero], hn, Int.le_refl 0, Int.le_refl 0⟩
set_option maxHeartbeats 2000000 in
theorem new_yes (n : Nat) (w : World) (h1 : 1 ≤ n) (hn : n ≤ 4096) :
  Calls Tryz.prog 55 #[.int .i64 n] w fun e w' => ∃ L, e = .returned (.tuple #[dp L.b, .int .i64 0]) ∧ DiskAt w' L n (D.zero n) ∧ Below w.heap.size w w' ∧ (∀ x ∈ L.fp, w.heap.size ≤ x) := by
 have m1 := make_rows n hn
 have m2 := make_loose n hn
 go_enter Tryz.func55, Tryz.ntmps55
 go_wp2
 go_region
 all_goals go_wp2
 all_goals go_ret2
 all_goals first | exact ⟨⟨w.heap.size + 1 + 1 + 1, w.heap.size, w.heap.size + 1, w.heap.size + 1 + 1⟩, rfl, ⟨.of_eq (four w (rowN n) (rowN n) (rowL n) (.cells (fields ⟨w.heap.size + 1 + 1 + 1, w.heap.size, w.heap.size + 1, w.heap.size + 1 + 1⟩ n (D.zero n)) 111)).2.2.2, .of_eq (four w (rowN n) (rowN n) (rowL n) (.cells (fields ⟨w.heap.size + 1 + 1 + 1, w.heap.size, w.heap.size + 1, w.heap.size + 1 + 1⟩ n (D.zero n)) 111)).1, .of_eq (four w (rowN n) (rowN n) (rowL n) (.cells (fields ⟨w.heap.size + 1 + 1 + 1, w.heap.size, w.heap.size + 1, w.heap.size + 1 + 1⟩ n (D.zero n)) 111)).2.1, .of_eq (four w (rowN n) (rowN n) (rowL n) (.cells (fields ⟨w.heap.size + 1 + 1 + 1, w.heap.size, w.heap.size + 1, w.heap.size + 1 + 1⟩ n (D.zero n)) 111)).2.2.1, by dsimp only; omega, zero_ok n hn⟩, below4 w _ _ _ _, by simp [Loc.fp]; omega⟩ | exact ⟨⟨w.heap.size + 1 + 1 + 1, w.heap.size, w.heap.size + 1 + 1, w.heap.size + 1⟩, rfl, ⟨.of_eq (four w (rowN n) (rowL n) (rowN n) (.cells (fields ⟨w.heap.size + 1 + 1 + 1, w.heap.size, w.heap.size + 1 + 1, w.heap.size + 1⟩ n (D.zero n)) 111)).2.2.2, .of_eq (four w (rowN n) (rowL n) (rowN n) (.cells (fields ⟨w.heap.size + 1 + 1 + 1, w.heap.size, w.heap.size + 1 + 1, w.heap.size + 1⟩ n (D.zero n)) 111)).1, .of_eq (four w (rowN n) (rowL n) (rowN n) (.cells (fields ⟨w.heap.size + 1 + 1 + 1, w.heap.size, w.heap.size + 1 + 1, w.heap.size + 1⟩ n (D.zero n)) 111)).2.2.1, .of_eq (four w (rowN n) (rowL n) (rowN n) (.cells (fields ⟨w.heap.size + 1 + 1 + 1, w.heap.size, w.heap.size + 1 + 1, w.heap.size + 1⟩ n (D.zero n)) 111)).2.1, by dsimp only; omega, zero_ok n hn⟩, below4 w _ _ _ _, by simp [Loc.fp]; omega⟩ | exact ⟨⟨w.heap.size + 1 + 1 + 1, w.heap.size + 1, w.heap.size, w.heap.size + 1 + 1⟩, rfl, ⟨.of_eq (four w (rowN n) (rowN n) (rowL n) (.cells (fields ⟨w.heap.size + 1 + 1 + 1, w.heap.size + 1, w.heap.size, w.heap.size + 1 + 1⟩ n (D.zero n)) 111)).2.2.2, .of_eq (four w (rowN n) (rowN n) (rowL n) (.cells (fields ⟨w.heap.size + 1 + 1 + 1, w.heap.size + 1, w.heap.size, w.heap.size + 1 + 1⟩ n (D.zero n)) 111)).2.1, .of_eq (four w (rowN n) (rowN n) (rowL n) (.cells (fields ⟨w.heap.size + 1 + 1 + 1, w.heap.size + 1, w.heap.size, w.heap.size + 1 + 1⟩ n (D.zero n)) 111)).1, .of_eq (four w (rowN n) (rowN n) (rowL n) (.cells (fields ⟨w.heap.size + 1 + 1 + 1, w.heap.size + 1, w.heap.size, w.heap.size + 1 + 1⟩ n (D.zero n)) 111)).2.2.1, by dsimp only; omega, zero_ok n hn⟩, below4 w _ _ _ _, by simp [Loc.fp]; omega⟩ | exact ⟨⟨w.heap.size + 1 + 1 + 1, w.heap.size + 1, w.heap.size + 1 + 1, w.heap.size⟩, rfl, ⟨.of_eq (four w (rowL n) (rowN n) (rowN n) (.cells (fields ⟨w.heap.size + 1 + 1 + 1, w.heap.size + 1, w.heap.size + 1 + 1, w.heap.size⟩ n (D.zero n)) 111)).2.2.2, .of_eq (four w (rowL n) (rowN n) (rowN n) (.cells (fields ⟨w.heap.size + 1 + 1 + 1, w.heap.size + 1, w.heap.size + 1 + 1, w.heap.size⟩ n (D.zero n)) 111)).2.1, .of_eq (four w (rowL n) (rowN n) (rowN n) (.cells (fields ⟨w.heap.size + 1 + 1 + 1, w.heap.size + 1, w.heap.size + 1 + 1, w.heap.size⟩ n (D.zero n)) 111)).2.2.1, .of_eq (four w (rowL n) (rowN n) (rowN n) (.cells (fields ⟨w.heap.size + 1 + 1 + 1, w.heap.size + 1, w.heap.size + 1 + 1, w.heap.size⟩ n (D.zero n)) 111)).1, by dsimp only; omega, zero_ok n hn⟩, below4 w _ _ _ _, by simp [Loc.fp]; omega⟩ | exact ⟨⟨w.heap.size + 1 + 1 + 1, w.heap.size + 1 + 1, w.heap.size, w.heap.size + 1⟩, rfl, ⟨.of_eq (four w (rowN n) (rowL n) (rowN n) (.cells (fields ⟨w.heap.size + 1 + 1 + 1, w.heap.size + 1 + 1, w.heap.size, w.heap.size + 1⟩ n (D.zero n)) 111)).2.2.2, .of_eq (four w (rowN n) (rowL n) (rowN n) (.cells (fields ⟨w.heap.size + 1 + 1 + 1, w.heap.size + 1 + 1, w.heap.size, w.heap.size + 1⟩ n (D.zero n)) 111)).2.2.1, .of_eq (four w (rowN n) (rowL n) (rowN n) (.cells (fields ⟨w.heap.size + 1 + 1 + 1, w.heap.size + 1 + 1, w.heap.size, w.heap.size + 1⟩ n (D.zero n)) 111)).1, .of_eq (four w (rowN n) (rowL n) (rowN n) (.cells (fields ⟨w.heap.size + 1 + 1 + 1, w.heap.size + 1 + 1, w.heap.size, w.heap.size + 1⟩ n (D.zero n)) 111)).2.1, by dsimp only; omega, zero_ok n hn⟩, below4 w _ _ _ _, by simp [Loc.fp]; omega⟩ | exact ⟨⟨w.heap.size + 1 + 1 + 1, w.heap.size + 1 + 1, w.heap.size + 1, w.heap.size⟩, rfl, ⟨.of_eq (four w (rowL n) (rowN n) (rowN n) (.cells (fields ⟨w.heap.size + 1 + 1 + 1, w.heap.size + 1 + 1, w.heap.size + 1, w.heap.size⟩ n (D.zero n)) 111)).2.2.2, .of_eq (four w (rowL n) (rowN n) (rowN n) (.cells (fields ⟨w.heap.size + 1 + 1 + 1, w.heap.size + 1 + 1, w.heap.size + 1, w.heap.size⟩ n (D.zero n)) 111)).2.2.1, .of_eq (four w (rowL n) (rowN n) (rowN n) (.cells (fields ⟨w.heap.size + 1 + 1 + 1, w.heap.size + 1 + 1, w.heap.size + 1, w.heap.size⟩ n (D.zero n)) 111)).2.1, .of_eq (four w (rowL n) (rowN n) (rowN n) (.cells (fields ⟨w.heap.size + 1 + 1 + 1, w.heap.size + 1 + 1, w.heap.size + 1, w.heap.size⟩ n (D.zero n)) 111)).1, by dsimp only; omega, zero_ok n hn⟩, below4 w _ _ _ _, by simp [Loc.fp]; omega⟩
end Go.Proofs.YtbelcgjbhpjnpaaGreat.Dk

/- disk by its contracts: what is left of a loose sector at a crash. -/
namespace Go.Proofs.YtbelcgjbhpjnpaaGreat.Dk
open Go.RowKit
attribute [local go_sem ↓] exec_ld exec_st exec_zero

/-- what a crash is: which loose sectors are kept, which is torn, and how many of its bytes are new -/
structure Cr where
 A : Option Addr
 m : Nat
 c : Nat
 kp : Nat → Bool
 torn : Int
 bytes : Int
def Cr.At (C : Cr) (w : World) : Prop := ∀ i, i < C.m → ∃ ad, C.A = some ad ∧ w.cell? (ad.add i) = some (.bool (C.kp i))
def Cr.val (C : Cr) : Value := .agg #[.slice C.A C.m C.c, .int .i64 C.torn, .int .i64 C.bytes]
structure Cr.Fit (C : Cr) : Prop where
 hm : C.m ≤ 9223372036854775807
theorem Cr.At.below {C : Cr} {w w' : World} (h : C.At w) (hb : Below w.heap.size w w') : C.At w' := by
 intro i hi
 obtain ⟨ad, e, hc⟩ := h i hi
 exact ⟨ad, e, (hb.cell (by rw [block_of_add]; exact cell_lt hc)).trans hc⟩
theorem Cr.At.only {C : Cr} {S : List Nat} {w w' : World} (h : C.At w) (ho : Only S w w') (hap : ∀ ad, C.A = some ad → 0 < C.m → ad.block ∉ S) : C.At w' := by
 intro i hi
 obtain ⟨ad, e, hc⟩ := h i hi
 exact ⟨ad, e, (ho.cell (by rw [block_of_add]; exact cell_lt hc) (by rw [block_of_add]; exact hap ad e (by omega))).trans hc⟩
def Cr.leftF (C : Cr) (j : Nat) : Nat := if (j : Int) = C.torn then (if 0 < C.bytes then C.bytes.toNat % 65 else 0) else if j < C.m ∧ C.kp j = true then 64 else 0
theorem Cr.left_le (C : Cr) (j : Nat) : C.leftF j ≤ 64 := by unfold Cr.leftF; split <;> split <;> omega
set_option maxHeartbeats 1000000 in
theorem left_any {w : World} {x : Nat} (C : Cr) (hC : C.At w) (_hm : C.m ≤ 9223372036854775807) (B : Blk w x 38 #[.slice C.A C.m C.c, .int .i64 C.torn, .int .i64 C.bytes]) (j : Nat) (_hj : j ≤ 4096) :
  Calls Tryz.prog 144 #[.int .i64 j, .pointer (some ⟨x, 0, none⟩)] w fun e w' => e = .returned (.int .i64 (C.leftF j : Nat)) ∧ w = w' := by
 have c0 : w.cell? ⟨x, 0, none⟩ = some (.slice C.A C.m C.c) := B.cell_some rfl
 have c1 : w.cell? ⟨x, 1, none⟩ = some (.int .i64 C.torn) := B.cell_some rfl
 have c2 : w.cell? ⟨x, 2, none⟩ = some (.int .i64 C.bytes) := B.cell_some rfl
 unfold Cr.leftF
 by_cases h1 : (j : Int) = C.torn
 ·rw [if_pos h1]
  rw [← h1] at c1
  by_cases h2 : 0 < C.bytes
  ·rw [if_pos h2]
   go_enter Tryz.func144, Tryz.ntmps144
   go_wp2
   go_ret
   refine ⟨?_, rfl⟩
   show Ending.returned (.int .i64 (C.bytes % 65)) = _
   congr 2
   omega
  ·rw [if_neg h2]
   go_enter Tryz.func144, Tryz.ntmps144
   go_wp2
   all_goals go_ret
   all_goals first
    | exact ⟨rfl, rfl⟩
    | (refine ⟨?_, rfl⟩; show Ending.returned (.int .i64 (C.bytes % 65)) = _; congr 2; omega)
 ·rw [if_neg h1]
  have t1 : ((j : Int) == C.torn) = false := by simpa using h1
  by_cases h2 : j < C.m
  ·obtain ⟨ad, hA, hk⟩ := hC j h2
   rw [hA] at c0
   cases hb : C.kp j
   ·rw [if_neg (by simp)]
    rw [hb] at hk
    clear hb hA h1
    go_enter Tryz.func144, Tryz.ntmps144
    go_wp2
    go_ret
    exact ⟨rfl, rfl⟩
   ·rw [if_pos ⟨h2, rfl⟩]
    rw [hb] at hk
    clear hb hA h1
    go_enter Tryz.func144, Tryz.ntmps144
    go_wp2
    go_ret
    exact ⟨rfl, rfl⟩
  ·rw [if_neg (by simp [h2])]
   clear h1
   go_enter Tryz.func144, Tryz.ntmps144
   go_wp2
   go_ret
   exact ⟨rfl, rfl⟩

/-- a crash, sector by sector: what becomes of the disk, and how many loose sectors came before -/
def D.crashOne (C : Cr) (d : D) (j i : Nat) : D :=
 { d with now := setSec d.now i ((sec d.now i).take (C.leftF j) ++ (sec d.old i).drop (C.leftF j)), loose := d.loose.set i false }
def D.crashTo (C : Cr) (d : D) : Nat → D × Nat
 | 0 => (d, 0)
 | i + 1 => if (D.crashTo C d i).1.loose.getD i false then ((D.crashTo C d i).1.crashOne C (D.crashTo C d i).2 i, (D.crashTo C d i).2 + 1) else D.crashTo C d i
def D.crashF (C : Cr) (d : D) (n : Nat) : D := { (D.crashTo C d n).1 with down := false, armed := 0 }
theorem D.Ok.one {d : D} {n : Nat} (h : d.Ok n) (C : Cr) (j i : Nat) (hi : i < n) : (d.crashOne C j i).Ok n := by
 have e1 := sec_length h.now hi
 have e2 := sec_length h.old hi
 have hk := C.left_le j
 have := h.now
 exact ⟨by show (setSec _ _ _).length = _; unfold setSec; rw [lay_length (by simp [e1, e2]; omega)]; exact h.now, h.old, by show (d.loose.set i false).length = _; rw [List.length_set]; exact h.loose, h.small, h.armed, h.calls⟩
theorem D.Ok.crashTo {d : D} {n : Nat} (h : d.Ok n) (C : Cr) : ∀ i, i ≤ n → (D.crashTo C d i).1.Ok n ∧ (D.crashTo C d i).2 ≤ i
 | 0, _ => ⟨h, Nat.le_refl 0⟩
 | i + 1, hi => by
  have ih := D.Ok.crashTo h C i (by omega)
  simp only [D.crashTo]
  split
  ·exact ⟨ih.1.one C _ i (by omega), by show _ + 1 ≤ _; omega⟩
  ·exact ⟨ih.1, by omega⟩
theorem D.Ok.crash {d : D} {n : Nat} (h : d.Ok n) (C : Cr) : (d.crashF C n).Ok n := by
 have := (h.crashTo C n (Nat.le_refl n)).1
 exact ⟨this.now, this.old, this.loose, this.small, Int.le_refl 0, this.calls⟩

theorem DiskAt.loose_set {w : World} {L : Loc} {n : Nat} {d : D} (h : DiskAt w L n d) (i : Nat) (x : Bool) : DiskAt (w.setCell ⟨L.gL, i, none⟩ (.bool x)) L n { d with loose := d.loose.set i x } := by
 have B := h.hL.set_ i (.bool x)
 rw [List.setIfInBounds_toArray, bools_set] at B
 exact ⟨h.hb.far (by exact h.bL) _, h.hN.far (by exact fun e => h.LN e.symm) _, h.hO.far (by exact fun e => h.LO e.symm) _, B, h.ne, ⟨h.ok.now, h.ok.old, by show (d.loose.set i x).length = n; rw [List.length_set]; exact h.ok.loose, h.ok.small, h.ok.armed, h.ok.calls⟩⟩
/-- the copy of a torn sector's old bytes -/
theorem torn_copy {w : World} {L : Loc} {n : Nat} {d : D} (h : DiskAt w L n d) (C : Cr) (j i : Nat) (hi : i < n) (oN oO : Nat) (hk : (C.leftF j < 64 ∧ oN = i * 64 + C.leftF j ∧ oO = i * 64 + C.leftF j) ∨ (C.leftF j = 64 ∧ oN = i * 64 ∧ oO = i * 64)) (len : Nat) (hlen : len = 64 - C.leftF j) :
  ∃ w1, (Builtin.copy_ #[141, 141] 3 #[.slice (some ⟨L.gN, oN, none⟩) len len, .slice (some ⟨L.gO, oO, none⟩) len len]).run Tryz.prog w = .ok (goInt len) w1 ∧
   DiskAt w1 L n { d with now := (d.crashOne C j i).now } ∧ Only [L.gN] w w1 := by
 have e1 := sec_length h.ok.now hi
 have e2 := sec_length h.ok.old hi
 have hle := C.left_le j
 have hN := h.ok.now
 have hok : ({ d with now := (d.crashOne C j i).now } : D).Ok n := ⟨(h.ok.one C j i hi).now, h.ok.old, h.ok.loose, h.ok.small, h.ok.armed, h.ok.calls⟩
 have hl : (bvs ((sec d.old i).drop (C.leftF j))).length = len := by simp [e2]; omega
 obtain ⟨w1, ec, B, o⟩ := copy_cells (P := Tryz.prog) h.hN 141 141 3 5 oN len len ⟨L.gO, oO, none⟩ len len (bvs ((sec d.old i).drop (C.leftF j))) Tryz.underlying141 size_u8 (by rw [hl]; exact (Nat.min_self _).symm)
  (cells_at h.hO oO _ (by
   intro q v hv
   rw [bvs_get, List.getElem?_drop, sec_get] at hv
   rw [bvs_get]
   split at hv
   ·have : oO + q = 64 * i + (C.leftF j + q) := by omega
    rw [this]; exact hv
   ·simp at hv)) (by rw [hl, bvs_length, hN]; omega) (bvs_one _)
 rw [hl] at ec
 refine ⟨w1, ec, ⟨h.hb.only o (by simp; exact h.bN), ?_, h.hO.only o (by simp; exact fun e => h.ne e.symm), h.hL.only o (by simp; exact h.LN), h.ne, hok⟩, o⟩
 have eN : putAt (bvs d.now) oN (bvs ((sec d.old i).drop (C.leftF j))) = bvs (d.crashOne C j i).now := by
  show _ = bvs (setSec d.now i _)
  rw [← torn_lay d.now d.old h.ok.now h.ok.old hi hle, bvs_lay]
  rcases hk with ⟨h1, h2, _⟩ | ⟨h1, h2, _⟩
  ·rw [h2, Nat.mul_comm]
  ·have e0 : (sec d.old i).drop (C.leftF j) = [] := List.drop_eq_nil_of_le (by omega)
   rw [e0]; simp [lay]
 rw [eN] at B
 exact B
end Go.Proofs.YtbelcgjbhpjnpaaGreat.Dk

/- disk by its contracts: Crash, Of. -/
namespace Go.Proofs.YtbelcgjbhpjnpaaGreat.Dk
open Go.RowKit
attribute [local go_sem ↓] exec_ld exec_st exec_zero

theorem slice_sector (w : World) (g o k : Nat) (hk : k < 64) :
  (Instr.sliceAt 140 (.pointer (some ⟨g, o, none⟩)) (some (.int .i64 k)) none none).run Tryz.prog w = .ok (.slice (some ⟨g, o + k, none⟩) (64 - k) (64 - k)) w := by
 obtain ⟨i, hi, hs⟩ : ∃ i, Tryz.prog.info? 5 = some i ∧ i.size = 1 := by
  have := size_u8
  cases hq : Tryz.prog.info? 5 with
  | none => rw [hq] at this; cases this
  | some i => rw [hq] at this; exact ⟨i, rfl, by simpa using this⟩
 have hb := fun w => run_sliceBound (P := Tryz.prog) (w := w) .i64 (k : Int) 64 .sliceB (by omega) (by omega)
 have h64 : ¬ 64 = k := by omega
 have ea : (⟨g, o, none⟩ : Addr).add k = ⟨g, o + k, none⟩ := by unfold Addr.add; split <;> simp_all
 simp [Instr.sliceAt, run_underlying bytes_under, Instr.sliceBounds, Instr.sureAddr, sizeOf, typeInfo, hi, hs, hb, h64, ea, Result.andThen]
theorem crash_nil (C : Cr) (w : World) :
  Calls Tryz.prog 78 #[.pointer none, C.val] w fun e w' => e = .returned (.int .i64 1) ∧ Below w.heap.size w w' := by
 unfold Cr.val
 go_enter Tryz.func78, Tryz.ntmps78
 go_wp2
 go_ret
 exact ⟨rfl, (Below.refl _ _).alloc (Nat.le_refl _) _⟩

set_option maxRecDepth 100000 in
set_option maxHeartbeats 4000000 in
theorem crash_any {w : World} {L : Loc} {n : Nat} {d : D} (h : DiskAt w L n d) (C : Cr) (hC : C.At w) (hm : C.m ≤ 9223372036854775807) (hap : ∀ ad, C.A = some ad → 0 < C.m → ad.block ∉ L.fp) :
  Calls Tryz.prog 78 #[dp L.b, C.val] w fun e w' => e = .returned (.int .i64 0) ∧ DiskAt w' L n (d.crashF C n) ∧ Only L.fp w w' := by
 have hn := h.ok.small
 have O0 := Lib.hid ((Below.refl w.heap.size w).alloc (Nat.le_refl _) (.cells #[.slice C.A C.m C.c, .int .i64 C.torn, .int .i64 C.bytes] 38))
 have B0 := Lib.hid (Blk.new w 38 #[.slice C.A C.m C.c, .int .i64 C.torn, .int .i64 C.bytes])
 have D0 := Lib.hid (h.below O0.out)
 have C0 := Lib.hid (hC.below O0.out)
 have hlt := Lib.hid h.lt
 have HOK := Lib.hid (h.ok.crashTo C)
 have HCR := Lib.hid (h.ok.crash C)
 have f2 := D0.out.f2
 have HAP := Lib.hid hap
 clear h hC hap
 unfold dp Cr.val
 go_enter Tryz.func78, Tryz.ntmps78
 go_wp2_with fail
 generalize w.alloc (.cells #[.slice C.A C.m C.c, .int .i64 C.torn, .int .i64 C.bytes] 38) = W at *
 generalize hx : w.heap.size = x at *
 have hx' := Lib.hid hx
 clear hx f2
 go_loopw [6, 7, 8, 9, 18] (fun jv _ _ _ iv wr => ∃ i : Nat, i ≤ n ∧ iv = .int .i64 i ∧ jv = .int .i64 (D.crashTo C d i).2 ∧ DiskAt wr L n (D.crashTo C d i).1 ∧ Blk wr x 38 #[.slice C.A C.m C.c, .int .i64 C.torn, .int .i64 C.bytes] ∧ C.At wr ∧ Only L.fp W wr) (fun _ _ _ _ iv _ => n - (intOf iv).toNat)
 case atStart => exact ⟨0, by omega, rfl, rfl, D0.out, B0.out, C0.out, Only.refl _ _⟩
 case round =>
  obtain ⟨i, hi, rfl, rfl, hD, hB, hCw, hO⟩ := hrel
  by_cases h : i < n
  ·have f0 := hD.f0
   have f1 := hD.f1
   have f2 := hD.f2
   have hjl := (HOK.out i (by omega)).2
   have hxN : x ≠ L.gN := by have := hlt.out L.gN (by simp [Loc.fp]); have := hx'.out; omega
   have hxL : x ≠ L.gL := by have := hlt.out L.gL (by simp [Loc.fp]); have := hx'.out; omega
   have cl : wr.cell? ⟨L.gL, i, none⟩ = some (.bool ((D.crashTo C d i).1.loose.getD i false)) := hD.hL.cell_some (by rw [List.getElem?_toArray, bools_get _ _ (by rw [hD.ok.loose]; exact h)])
   have HS := Lib.hid (show D.crashTo C d (i + 1) = if (D.crashTo C d i).1.loose.getD i false then ((D.crashTo C d i).1.crashOne C (D.crashTo C d i).2 i, (D.crashTo C d i).2 + 1) else D.crashTo C d i from rfl)
   generalize D.crashTo C d i = T at *
   obtain ⟨d1, j⟩ := T
   simp only at hD hjl cl HS
   cases hl : d1.loose.getD i false
   ·rw [hl] at cl
    have HS := Lib.hid (show D.crashTo C d (i + 1) = (d1, j) by rw [HS.out, hl]; rfl)
    have HD := Lib.hid hD
    clear hl f0 f1 hD
    go_wp2_with fail
    go_roundw
    case rel => exact ⟨i + 1, by omega, by go_num, by rw [HS.out], by rw [HS.out]; exact HD.out, hB, hCw, hO⟩
    case measure => simp [intOf]; omega
   ·rw [hl] at cl
    have HS := Lib.hid (show D.crashTo C d (i + 1) = (d1.crashOne C j i, j + 1) by rw [HS.out, hl]; rfl)
    have KL := Lib.hid (left_any C hCw hm hB j (by omega))
    have hle := C.left_le j
    clear hl
    have HK64 := Lib.hid (Nat.lt_or_ge (C.leftF j) 64)
    rcases HK64.out with hlt64 | hge64
    ·obtain ⟨k, hk⟩ : ∃ k, C.leftF j = k := ⟨_, rfl⟩
     rw [hk] at KL hle hlt64
     have hsl := fun (g o : Nat) (w' : World) => slice_sector w' g o k (by omega)
     obtain ⟨w2, ec, D2, o2⟩ := torn_copy hD.drew C j i h (i * 64 + k) (i * 64 + k) (.inl ⟨by omega, by omega, by omega⟩) (64 - k) (by omega)
     have cl2 : w2.cell? ⟨L.gL, i, none⟩ = some (.bool true) := (o2.cell (cell_lt' cl) (by simp; exact hD.LN)).trans cl
     have fl2 : w2.frozen? ⟨L.gL, i, none⟩ = false := (o2.frozen (cell_lt' cl) (by simp; exact hD.LN)).trans (hD.hL.frozen i (by simp; rw [hD.ok.loose]; exact h))
     have f22 : w2.cell? ⟨L.b, 2, none⟩ = some (.slice (some ⟨L.gL, 0, none⟩) n n) := D2.f2
     have D3 := Lib.hid (D2.loose_set i false)
     have B2 := Lib.hid ((hB.drew.only o2 (by simp; exact hxN)).far (p := ⟨L.gL, i, none⟩) (by exact hxL) (.bool false))
     have o3 : Only L.fp wr (w2.setCell ⟨L.gL, i, none⟩ (.bool false)) := (⟨o2.os, o2.tape, o2.output, o2.size, fun b hb hn => o2.block b hb (by simp [Loc.fp] at hn ⊢; exact hn.2.1)⟩ : Only L.fp wr w2).setCell (by simp [Loc.fp]) _
     have C3 := Lib.hid (hCw.only o3 HAP.out)
     have O3 := Lib.hid (hO.trans o3)
     have HD := Lib.hid hD
     clear D2 o2 o3 hB hCw hO hD HK64
     clear hk
     go_wp2_with fail
     refine KL.out.mono ?_
     rintro e w1 ⟨rfl, rfl⟩
     go_wp2_with fail
     go_region
     all_goals go_wp2_with fail
     all_goals go_roundw
     case rel => exact ⟨i + 1, by omega, by go_num, by rw [HS.out]; go_num, by rw [HS.out]; exact D3.out, B2.out, C3.out, O3.out⟩
     case measure => simp [intOf]; omega
    ·have hk64 : C.leftF j = 64 := by omega
     have HKV := Lib.hid hk64
     rw [hk64] at KL
     obtain ⟨w2, ec, D2, o2⟩ := torn_copy hD.drew C j i h (i * 64) (i * 64) (.inr ⟨hk64, rfl, rfl⟩) 0 (by omega)
     have cl2 : w2.cell? ⟨L.gL, i, none⟩ = some (.bool true) := (o2.cell (cell_lt' cl) (by simp; exact hD.LN)).trans cl
     have fl2 : w2.frozen? ⟨L.gL, i, none⟩ = false := (o2.frozen (cell_lt' cl) (by simp; exact hD.LN)).trans (hD.hL.frozen i (by simp; rw [hD.ok.loose]; exact h))
     have f22 : w2.cell? ⟨L.b, 2, none⟩ = some (.slice (some ⟨L.gL, 0, none⟩) n n) := D2.f2
     have D3 := Lib.hid (D2.loose_set i false)
     have B2 := Lib.hid ((hB.drew.only o2 (by simp; exact hxN)).far (p := ⟨L.gL, i, none⟩) (by exact hxL) (.bool false))
     have o3 : Only L.fp wr (w2.setCell ⟨L.gL, i, none⟩ (.bool false)) := (⟨o2.os, o2.tape, o2.output, o2.size, fun b hb hn => o2.block b hb (by simp [Loc.fp] at hn ⊢; exact hn.2.1)⟩ : Only L.fp wr w2).setCell (by simp [Loc.fp]) _
     have C3 := Lib.hid (hCw.only o3 HAP.out)
     have O3 := Lib.hid (hO.trans o3)
     have HD := Lib.hid hD
     clear D2 o2 o3 hB hCw hO hD HK64
     clear hk64 hle hge64 HKV
     go_wp2_with fail
     refine KL.out.mono ?_
     rintro e w1 ⟨rfl, rfl⟩
     go_wp2_with fail
     go_region
     all_goals go_wp2_with fail
     all_goals go_roundw
     case rel => exact ⟨i + 1, by omega, by go_num, by rw [HS.out]; go_num, by rw [HS.out]; exact D3.out, B2.out, C3.out, O3.out⟩
     case measure => simp [intOf]; omega
  ·have hin : i = n := by omega
   subst hin
   have f3 := hD.f3
   have f5 := hD.f5
   have z3 := hD.fz 3 (by omega)
   have z5 := hD.fz 5 (by omega)
   have HD := Lib.hid hD
   go_wp2_with fail
   go_ret
   have o1 : Only [L.b] wr ((wr.setCell ⟨L.b, 5, none⟩ (.bool false)).setCell ⟨L.b, 3, none⟩ (.int .i64 0)) := ((Only.refl _ _).setCell (by simp) _).setCell (by simp) _
   exact ⟨rfl, HD.out.head (d' := d.crashF C i) ((HD.out.hb.set_ 5 (.bool false)).set_ 3 (.int .i64 0)) o1 rfl rfl rfl HCR.out, ((Only.of_below (by rw [hx'.out]; exact O0.out)).trans hO).trans (o1.mono (by simp [Loc.fp]))⟩
end Go.Proofs.YtbelcgjbhpjnpaaGreat.Dk
