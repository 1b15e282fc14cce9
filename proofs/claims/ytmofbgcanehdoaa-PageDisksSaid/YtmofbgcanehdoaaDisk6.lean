/- disk by its contracts: what is left of a loose sector at a crash. -/
import Derived.Test.YtmofbgcanehdoaaDisk5
namespace Go.Proofs.Ytmofbgcanehdoaa.Dk
open Go.RowKit
attribute [local go_sem ↓] exec_ld exec_st exec_zero

/-- what a crash is: which loose sectors are kept, which is torn, and how many of its bytes are new -/
structure Cr where
  A : Option Addr
  m : Nat
  c : Nat
  kp : Nat → Bool
  torn : Int
  bytes : Int
def Cr.At (C : Cr) (w : World) : Prop := ∀ i, i < C.m → ∃ ad, C.A = some ad ∧ w.cell? (ad.add i) = some (.bool (C.kp i))
def Cr.val (C : Cr) : Value := .agg #[.slice C.A C.m C.c, .int .i64 C.torn, .int .i64 C.bytes]
structure Cr.Fit (C : Cr) : Prop where
  hm : C.m ≤ 9223372036854775807
theorem Cr.At.below {C : Cr} {w w' : World} (h : C.At w) (hb : Below w.heap.size w w') : C.At w' := by
  intro i hi
  obtain ⟨ad, e, hc⟩ := h i hi
  exact ⟨ad, e, (hb.cell (by rw [block_of_add]; exact cell_lt hc)).trans hc⟩
theorem Cr.At.only {C : Cr} {S : List Nat} {w w' : World} (h : C.At w) (ho : Only S w w') (hap : ∀ ad, C.A = some ad → 0 < C.m → ad.block ∉ S) : C.At w' := by
  intro i hi
  obtain ⟨ad, e, hc⟩ := h i hi
  exact ⟨ad, e, (ho.cell (by rw [block_of_add]; exact cell_lt hc) (by rw [block_of_add]; exact hap ad e (by omega))).trans hc⟩
def Cr.leftF (C : Cr) (j : Nat) : Nat := if (j : Int) = C.torn then (if 0 < C.bytes then C.bytes.toNat % 65 else 0) else if j < C.m ∧ C.kp j = true then 64 else 0
theorem Cr.left_le (C : Cr) (j : Nat) : C.leftF j ≤ 64 := by unfold Cr.leftF; split <;> split <;> omega
set_option maxHeartbeats 1000000 in
theorem left_any {w : World} {x : Nat} (C : Cr) (hC : C.At w) (_hm : C.m ≤ 9223372036854775807) (B : Blk w x 48 #[.slice C.A C.m C.c, .int .i64 C.torn, .int .i64 C.bytes]) (j : Nat) (_hj : j ≤ 4096) :
    Calls Try.prog 50 #[.int .i64 j, .pointer (some ⟨x, 0, none⟩)] w fun e w' => e = .returned (.int .i64 (C.leftF j : Nat)) ∧ w = w' := by
  have c0 : w.cell? ⟨x, 0, none⟩ = some (.slice C.A C.m C.c) := B.cell_some rfl
  have c1 : w.cell? ⟨x, 1, none⟩ = some (.int .i64 C.torn) := B.cell_some rfl
  have c2 : w.cell? ⟨x, 2, none⟩ = some (.int .i64 C.bytes) := B.cell_some rfl
  unfold Cr.leftF
  by_cases h1 : (j : Int) = C.torn
  · rw [if_pos h1]
    rw [← h1] at c1
    by_cases h2 : 0 < C.bytes
    · rw [if_pos h2]
      go_enter Try.func50, Try.ntmps50
      go_wp2
      go_ret
      refine ⟨?_, rfl⟩
      show Ending.returned (.int .i64 (C.bytes % 65)) = _
      congr 2
      omega
    · rw [if_neg h2]
      go_enter Try.func50, Try.ntmps50
      go_wp2
      all_goals go_ret
      all_goals first
        | exact ⟨rfl, rfl⟩
        | (refine ⟨?_, rfl⟩; show Ending.returned (.int .i64 (C.bytes % 65)) = _; congr 2; omega)
  · rw [if_neg h1]
    have t1 : ((j : Int) == C.torn) = false := by simpa using h1
    by_cases h2 : j < C.m
    · obtain ⟨ad, hA, hk⟩ := hC j h2
      rw [hA] at c0
      cases hb : C.kp j
      · rw [if_neg (by simp)]
        rw [hb] at hk
        clear hb hA h1
        go_enter Try.func50, Try.ntmps50
        go_wp2
        go_ret
        exact ⟨rfl, rfl⟩
      · rw [if_pos ⟨h2, rfl⟩]
        rw [hb] at hk
        clear hb hA h1
        go_enter Try.func50, Try.ntmps50
        go_wp2
        go_ret
        exact ⟨rfl, rfl⟩
    · rw [if_neg (by simp [h2])]
      clear h1
      go_enter Try.func50, Try.ntmps50
      go_wp2
      go_ret
      exact ⟨rfl, rfl⟩

/-- a crash, sector by sector: what becomes of the disk, and how many loose sectors came before -/
def D.crashOne (C : Cr) (d : D) (j i : Nat) : D :=
  { d with now := setSec d.now i ((sec d.now i).take (C.leftF j) ++ (sec d.old i).drop (C.leftF j)), loose := d.loose.set i false }
def D.crashTo (C : Cr) (d : D) : Nat → D × Nat
  | 0 => (d, 0)
  | i + 1 => if (D.crashTo C d i).1.loose.getD i false then ((D.crashTo C d i).1.crashOne C (D.crashTo C d i).2 i, (D.crashTo C d i).2 + 1) else D.crashTo C d i
def D.crashF (C : Cr) (d : D) (n : Nat) : D := { (D.crashTo C d n).1 with down := false, armed := 0 }
theorem D.Ok.one {d : D} {n : Nat} (h : d.Ok n) (C : Cr) (j i : Nat) (hi : i < n) : (d.crashOne C j i).Ok n := by
  have e1 := sec_length h.now hi
  have e2 := sec_length h.old hi
  have hk := C.left_le j
  have := h.now
  exact ⟨by show (setSec _ _ _).length = _; unfold setSec; rw [lay_length (by simp [e1, e2]; omega)]; exact h.now, h.old, by show (d.loose.set i false).length = _; rw [List.length_set]; exact h.loose, h.small, h.armed, h.calls⟩
theorem D.Ok.crashTo {d : D} {n : Nat} (h : d.Ok n) (C : Cr) : ∀ i, i ≤ n → (D.crashTo C d i).1.Ok n ∧ (D.crashTo C d i).2 ≤ i
  | 0, _ => ⟨h, Nat.le_refl 0⟩
  | i + 1, hi => by
    have ih := D.Ok.crashTo h C i (by omega)
    simp only [D.crashTo]
    split
    · exact ⟨ih.1.one C _ i (by omega), by show _ + 1 ≤ _; omega⟩
    · exact ⟨ih.1, by omega⟩
theorem D.Ok.crash {d : D} {n : Nat} (h : d.Ok n) (C : Cr) : (d.crashF C n).Ok n := by
  have := (h.crashTo C n (Nat.le_refl n)).1
  exact ⟨this.now, this.old, this.loose, this.small, Int.le_refl 0, this.calls⟩

theorem DiskAt.loose_set {w : World} {L : Loc} {n : Nat} {d : D} (h : DiskAt w L n d) (i : Nat) (x : Bool) : DiskAt (w.setCell ⟨L.gL, i, none⟩ (.bool x)) L n { d with loose := d.loose.set i x } := by
  have B := h.hL.set_ i (.bool x)
  rw [List.setIfInBounds_toArray, bools_set] at B
  exact ⟨h.hb.far (by exact h.bL) _, h.hN.far (by exact fun e => h.LN e.symm) _, h.hO.far (by exact fun e => h.LO e.symm) _, B, h.ne, ⟨h.ok.now, h.ok.old, by show (d.loose.set i x).length = n; rw [List.length_set]; exact h.ok.loose, h.ok.small, h.ok.armed, h.ok.calls⟩⟩
/-- the copy of a torn sector's old bytes -/
theorem torn_copy {w : World} {L : Loc} {n : Nat} {d : D} (h : DiskAt w L n d) (C : Cr) (j i : Nat) (hi : i < n) (oN oO : Nat) (hk : (C.leftF j < 64 ∧ oN = i * 64 + C.leftF j ∧ oO = i * 64 + C.leftF j) ∨ (C.leftF j = 64 ∧ oN = i * 64 ∧ oO = i * 64)) (len : Nat) (hlen : len = 64 - C.leftF j) :
    ∃ w1, (Builtin.copy_ #[62, 62] 3 #[.slice (some ⟨L.gN, oN, none⟩) len len, .slice (some ⟨L.gO, oO, none⟩) len len]).run Try.prog w = .ok (goInt len) w1 ∧
      DiskAt w1 L n { d with now := (d.crashOne C j i).now } ∧ Only [L.gN] w w1 := by
  have e1 := sec_length h.ok.now hi
  have e2 := sec_length h.ok.old hi
  have hle := C.left_le j
  have hN := h.ok.now
  have hok : ({ d with now := (d.crashOne C j i).now } : D).Ok n := ⟨(h.ok.one C j i hi).now, h.ok.old, h.ok.loose, h.ok.small, h.ok.armed, h.ok.calls⟩
  have hl : (bvs ((sec d.old i).drop (C.leftF j))).length = len := by simp [e2]; omega
  obtain ⟨w1, ec, B, o⟩ := copy_cells (P := Try.prog) h.hN 62 62 3 5 oN len len ⟨L.gO, oO, none⟩ len len (bvs ((sec d.old i).drop (C.leftF j))) Try.underlying62 size_u8 (by rw [hl]; exact (Nat.min_self _).symm)
    (cells_at h.hO oO _ (by
      intro q v hv
      rw [bvs_get, List.getElem?_drop, sec_get] at hv
      rw [bvs_get]
      split at hv
      · have : oO + q = 64 * i + (C.leftF j + q) := by omega
        rw [this]; exact hv
      · simp at hv)) (by rw [hl, bvs_length, hN]; omega) (bvs_one _)
  rw [hl] at ec
  refine ⟨w1, ec, ⟨h.hb.only o (by simp; exact h.bN), ?_, h.hO.only o (by simp; exact fun e => h.ne e.symm), h.hL.only o (by simp; exact h.LN), h.ne, hok⟩, o⟩
  have eN : putAt (bvs d.now) oN (bvs ((sec d.old i).drop (C.leftF j))) = bvs (d.crashOne C j i).now := by
    show _ = bvs (setSec d.now i _)
    rw [← torn_lay d.now d.old h.ok.now h.ok.old hi hle, bvs_lay]
    rcases hk with ⟨h1, h2, _⟩ | ⟨h1, h2, _⟩
    · rw [h2, Nat.mul_comm]
    · have e0 : (sec d.old i).drop (C.leftF j) = [] := List.drop_eq_nil_of_le (by omega)
      rw [e0]; simp [lay]
  rw [eN] at B
  exact B
end Go.Proofs.Ytmofbgcanehdoaa.Dk
