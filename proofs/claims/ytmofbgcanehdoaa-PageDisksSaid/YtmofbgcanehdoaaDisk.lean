/- disk by its contracts: the object; New, works, at, counts, Down, Sectors, Calls, Arm. -/
import Derived.Test.YtmofbgcanehdoaaDiskMath
import Derived.Deep.QuietTactic
import Derived.BigQuiet
namespace Go.Proofs.Ytmofbgcanehdoaa.Dk
open Go.RowKit

/-! whole sectors: loads and stores of an array, kept from the walk's own steps -/
noncomputable def ldArr (w : World) (v : Value) : Result Value := (Instr.loadAt 80 v).run Try.prog w
noncomputable def stArr (w : World) (a v : Value) : Result Unit := (Instr.storeAt 80 a v).run Try.prog w
theorem exec_ld (ρ : Operand → Value) (dst : Option Tmp) (x : Operand) (t : TypeId) (p : String) (af : Array Edge) (g : Option (Nat × Bool)) (w : World) :
    (execOp ρ { dst := dst, op := .load 80 x, type := t, pos := p, after := af, guard := g }).run Try.prog w = (ldArr w (ρ x)).andThen fun v w' => .ok (.value v) w' := by
  simp only [execOp, Sem.run_bind, Sem.run_pure]; rfl
theorem exec_st (ρ : Operand → Value) (dst : Option Tmp) (x y : Operand) (t : TypeId) (p : String) (af : Array Edge) (g : Option (Nat × Bool)) (w : World) :
    (execOp ρ { dst := dst, op := .store 80 x y, type := t, pos := p, after := af, guard := g }).run Try.prog w = (stArr w (ρ x) (ρ y)).andThen fun _ w' => .ok .skip w' := by
  simp only [execOp, Sem.run_bind, Sem.run_pure]; rfl
/-- a sector of bytes 0, as a literal lays it -/
noncomputable def zero64 : Value := .agg (bvs (List.replicate 64 0)).toArray
theorem exec_zero (ρ : Operand → Value) (dst : Option Tmp) (t : TypeId) (p : String) (af : Array Edge) (g : Option (Nat × Bool)) (w : World) :
    (execOp ρ { dst := dst, op := .build 80 #[], type := t, pos := p, after := af, guard := g }).run Try.prog w = .ok (.value zero64) w := by kernel_rfl
theorem bytes_under : Try.prog.underlying 80 = some (.array 64 5) := Try.underlying80
theorem bytes_size : (Try.prog.info? 80).map (·.size) = some 64 := by kernel_rfl

theorem ldArr_ok {w : World} {g : Nat} {t : TypeId} {l : List Value} (B : Blk w g t l.toArray) (o : Nat) (c : List Value) (hc : c.length = 64) (h : ∀ j v, c[j]? = some v → l[o + j]? = some v) :
    ldArr w (.pointer (some ⟨g, o, none⟩)) = .ok (.agg c.toArray) w := by
  have hl := run_loadCells_list (P := Try.prog) w ⟨g, o, none⟩ c (cells_at B o c h)
  rw [hc] at hl
  unfold ldArr Instr.loadAt
  obtain ⟨i, hi, hs⟩ : ∃ i, Try.prog.info? 80 = some i ∧ i.size = 64 := by
    have := bytes_size
    cases hq : Try.prog.info? 80 with
    | none => rw [hq] at this; cases this
    | some i => rw [hq] at this; exact ⟨i, rfl, by simpa using this⟩
  simp [Instr.sureAddr, loadVar, isAgg, run_underlying bytes_under, sizeOf, typeInfo, hi, hs, hl, Result.andThen]
theorem stArr_ok {w : World} {g : Nat} {t : TypeId} {l : List Value} (B : Blk w g t l.toArray) (o : Nat) (c : List Value) (hc : c.length = 64) (ho : o + 64 ≤ l.length) (h1 : ∀ v ∈ c, v.oneCell' = true) :
    ∃ w', stArr w (.pointer (some ⟨g, o, none⟩)) (.agg c.toArray) = .ok () w' ∧ Blk w' g t (putAt l o c).toArray ∧ Only [g] w w' := by
  have hst := run_storeCells_cells (P := Try.prog) g o c 0 w (fun j hj => by rw [B.cell]; simp; omega) (fun j hj => B.frozen _ (by simp; omega)) h1
  refine ⟨w.setCells g o c, ?_, B.setCells c o (by omega), (Only.refl _ _).setCells c o (by simp)⟩
  unfold stArr Instr.storeAt
  obtain ⟨i, hi, hs⟩ : ∃ i, Try.prog.info? 80 = some i ∧ i.size = 64 := by
    have := bytes_size
    cases hq : Try.prog.info? 80 with
    | none => rw [hq] at this; cases this
    | some i => rw [hq] at this; exact ⟨i, rfl, by simpa using this⟩
  simp only [Nat.add_zero] at hst
  simp [Instr.sureAddr, storeVar, Value.cells, sizeOf, typeInfo, hi, hs, hc, hst, Result.andThen]
end Go.Proofs.Ytmofbgcanehdoaa.Dk
