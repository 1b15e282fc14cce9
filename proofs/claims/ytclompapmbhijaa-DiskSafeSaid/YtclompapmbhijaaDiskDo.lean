/- both disks side by side: do. -/
import Derived.Test.YtclompapmbhijaaDiskRel
namespace Go.Proofs.Ytclompapmbhijaa.Dk
open Go.RowKit

structure Both (w : World) (L : Loc) (M : XL) (n : Nat) (d : D) (x : X) : Prop where
  dv : DiskAt w L n d
  rf : XAt w M n x
  r : Rel n d x
  ap : L.gL ≠ M.gI
def bfp (L : Loc) (M : XL) : List Nat := L.fp ++ M.fp
section
variable {w w' w'' : World} {L : Loc} {M : XL} {n : Nat} {d d' : D} {x x' : X} {S : List Nat}
theorem Both.apart (h : Both w L M n d x) : ∀ y ∈ L.fp, y ∉ M.fp := by
  have p1 : L.b ≠ M.b := h.dv.hb.ne_ h.rf.hb (by decide)
  have p2 : L.b ≠ M.gS := h.dv.hb.ne_ h.rf.hS (by decide)
  have p3 : L.b ≠ M.gW := h.dv.hb.ne_ h.rf.hW (by decide)
  have p4 : L.b ≠ M.gI := h.dv.hb.ne_ h.rf.hI (by decide)
  have q1 : L.gN ≠ M.b := h.dv.hN.ne_ h.rf.hb (by decide)
  have q2 : L.gN ≠ M.gS := h.dv.hN.ne_ h.rf.hS (by decide)
  have q3 : L.gN ≠ M.gW := h.dv.hN.ne_ h.rf.hW (by decide)
  have q4 : L.gN ≠ M.gI := h.dv.hN.ne_ h.rf.hI (by decide)
  have r1 : L.gO ≠ M.b := h.dv.hO.ne_ h.rf.hb (by decide)
  have r2 : L.gO ≠ M.gS := h.dv.hO.ne_ h.rf.hS (by decide)
  have r3 : L.gO ≠ M.gW := h.dv.hO.ne_ h.rf.hW (by decide)
  have r4 : L.gO ≠ M.gI := h.dv.hO.ne_ h.rf.hI (by decide)
  have s1 : L.gL ≠ M.b := h.dv.hL.ne_ h.rf.hb (by decide)
  have s2 : L.gL ≠ M.gS := h.dv.hL.ne_ h.rf.hS (by decide)
  have s3 : L.gL ≠ M.gW := h.dv.hL.ne_ h.rf.hW (by decide)
  have s4 := h.ap
  intro y hy hz
  simp only [Loc.fp, XL.fp, List.mem_cons, List.not_mem_nil, or_false] at hy hz
  rcases hy with rfl | rfl | rfl | rfl <;> rcases hz with hz | hz | hz | hz <;> first | exact p1 hz | exact p2 hz | exact p3 hz | exact p4 hz | exact q1 hz | exact q2 hz | exact q3 hz | exact q4 hz | exact r1 hz | exact r2 hz | exact r3 hz | exact r4 hz | exact s1 hz | exact s2 hz | exact s3 hz | exact s4 hz
theorem Both.only (h : Both w L M n d x) (ho : Only S w w') (hd : ∀ y ∈ bfp L M, y ∉ S) : Both w' L M n d x :=
  ⟨h.dv.only ho (fun y hy => hd y (List.mem_append_left _ hy)), h.rf.only ho (fun y hy => hd y (List.mem_append_right _ hy)), h.r, h.ap⟩
theorem Both.below (h : Both w L M n d x) (hb : Below w.heap.size w w') : Both w' L M n d x := h.only (S := []) (.of_below hb) (by simp)
theorem Both.drew (h : Both w L M n d x) : Both w.drew L M n d x := ⟨h.dv.drew, h.rf.drew, h.r, h.ap⟩
theorem Both.drewN (h : Both w L M n d x) (k : Nat) : Both (w.drewN k) L M n d x := ⟨h.dv.drewN k, h.rf.drewN k, h.r, h.ap⟩
theorem Both.lt (h : Both w L M n d x) : ∀ y ∈ bfp L M, y < w.heap.size := by
  intro y hy
  rcases List.mem_append.1 hy with h1 | h1
  · exact h.dv.lt y h1
  · exact h.rf.lt y h1
/-- behind a call of the disk: the document's -/
theorem Both.ref (h : Both w L M n d x) (ho : Only L.fp w w') : XAt w' M n x := h.rf.only ho (fun y hy hz => h.apart y hz hy)
/-- behind a call of the document's: the disk -/
theorem Both.dev (h : Both w L M n d x) (ho : Only M.fp w w') : DiskAt w' L n d := h.dv.only ho h.apart
theorem bfpL (L : Loc) (M : XL) {w w' : World} (h : Only L.fp w w') : Only (bfp L M) w w' := h.mono fun _ hy _ => List.mem_append_left _ hy
theorem bfpM (L : Loc) (M : XL) {w w' : World} (h : Only M.fp w w') : Only (bfp L M) w w' := h.mono fun _ hy _ => List.mem_append_right _ hy
end
/-- behind an act -/
def Step (w w' : World) (L : Loc) (M : XL) (n : Nat) (d : D) : Prop := ∃ d' x', Both w' L M n d' x' ∧ d'.calls ≤ d.calls + 1 ∧ d'.armed ≤ 9223372036854775807 ∧ Only (bfp L M) w w'
theorem Step.from_ {w w' w'' : World} {L : Loc} {M : XL} {n : Nat} {d : D} (hb : Below w.heap.size w w') (h : Step w' w'' L M n d) : Step w w'' L M n d := by
  obtain ⟨d', x', h1, h2, h3, h4⟩ := h
  exact ⟨d', x', h1, h2, h3, (Only.of_below hb).trans h4⟩
theorem Both.step {w w1 w2 : World} {L : Loc} {M : XL} {n : Nat} {d d' : D} {x x' : X} (h : Both w L M n d x) (o1 : Only L.fp w w1) (h1 : DiskAt w1 L n d') (o2 : Only M.fp w1 w2) (h2 : XAt w2 M n x') (r : Rel n d' x') (hc : d'.calls ≤ d.calls + 1) (ha : d'.armed ≤ 9223372036854775807) : Step w w2 L M n d :=
  ⟨d', x', ⟨h1.only o2 h.apart, h2, r, h.ap⟩, hc, ha, (bfpL L M o1).trans (bfpM L M o2)⟩
theorem Both.step' {w w1 w2 : World} {L : Loc} {M : XL} {n : Nat} {d d' : D} {x x' : X} (h : Both w L M n d x) (o1 : Only M.fp w w1) (h1 : XAt w1 M n x') (o2 : Only L.fp w1 w2) (h2 : DiskAt w2 L n d') (r : Rel n d' x') (hc : d'.calls ≤ d.calls + 1) (ha : d'.armed ≤ 9223372036854775807) : Step w w2 L M n d :=
  ⟨d', x', ⟨h2, h1.only o2 (fun y hy hz => h.apart y hz hy), r, h.ap⟩, hc, ha, (bfpM L M o1).trans (bfpL L M o2)⟩
theorem count_bd (d : D) (h : d.armed ≤ 9223372036854775807) : d.countF.1.calls = d.calls + 1 ∧ d.countF.1.armed ≤ 9223372036854775807 := by
  unfold D.countF
  split
  · exact ⟨rfl, h⟩
  · split
    · exact ⟨rfl, by show (0 : Int) ≤ _; omega⟩
    · exact ⟨rfl, by show d.armed - 1 ≤ _; omega⟩
theorem keep_same (d : D) (i : Nat) : (d.keepF i).calls = d.calls ∧ (d.keepF i).armed = d.armed := by unfold D.keepF; split <;> exact ⟨rfl, rfl⟩
theorem write_bd (d : D) (n : Nat) (i : Int) (s : List UInt8) (h : d.armed ≤ 9223372036854775807) : (d.writeF n i s).1.calls ≤ d.calls + 1 ∧ (d.writeF n i s).1.armed ≤ 9223372036854775807 := by
  unfold D.writeF
  split
  · obtain ⟨k1, k2⟩ := keep_same d i.toNat
    have := count_bd (d.putF i.toNat s) (by show (d.keepF i.toNat).armed ≤ _; rw [k2]; exact h)
    have e : (d.putF i.toNat s).calls = d.calls := k1
    exact ⟨by omega, this.2⟩
  · exact ⟨by show d.calls ≤ _; omega, h⟩
theorem sync_bd (d : D) (h : d.armed ≤ 9223372036854775807) : d.syncF.1.calls ≤ d.calls + 1 ∧ d.syncF.1.armed ≤ 9223372036854775807 := by
  have := count_bd d h
  unfold D.syncF
  split
  · exact ⟨by show d.calls ≤ _; omega, h⟩
  · split
    · exact ⟨by show d.countF.1.calls ≤ _; omega, this.2⟩
    · exact ⟨by omega, this.2⟩
theorem crash_same (C : Cr) (d : D) : ∀ i, (D.crashTo C d i).1.calls = d.calls
  | 0 => rfl
  | i + 1 => by
    have := crash_same C d i
    simp only [D.crashTo]
    split
    · exact this
    · exact this
def actV (k i : Int) (s : ByteArray) (C : Cr) : Value := .agg #[.int .i64 k, .int .i64 i, .string s, .slice C.A C.m C.c, .int .i64 C.torn, .int .i64 C.bytes]
def actC (k i : Int) (s : ByteArray) (C : Cr) : Array Value := #[.int .i64 k, .int .i64 i, .string s, .slice C.A C.m C.c, .int .i64 C.torn, .int .i64 C.bytes]

set_option maxRecDepth 100000 in
set_option maxHeartbeats 2000000 in
theorem do_sync {w : World} {L : Loc} {M : XL} {n : Nat} {d : D} {x : X} (h : Both w L M n d x) (hc : d.calls ≤ 1000000) (hr : d.armed ≤ 9223372036854775807) (i : Int) (s : ByteArray) (C : Cr) :
    Calls Try.prog 28 #[dp L.b, xp M.b, actV 3 i s C] w fun e w' => e = .returned (.bool true) ∧ Step w w' L M n d := by
  have O0 := (Below.refl w.heap.size w).alloc (Nat.le_refl _) (.cells (actC 3 i s C) 45)
  have h0 := Lib.hid (h.below O0)
  obtain ⟨e1, R1⟩ := h.r.sync
  have BD := Lib.hid (sync_bd d hr)
  have RR := Lib.hid R1
  have a0 := h.r.dok.armed
  have c0 := h.r.dok.calls
  have K1 := Lib.hid (sync_any h0.out.dv (by omega) hr)
  rw [e1] at K1
  have X1 := Lib.hid (fun (w1 : World) (hx : XAt w1 M n x) => xsync_any hx (by rw [← h.r.calls]; omega) (by rw [← h.r.calls]; omega) (by rw [← h.r.arm]; omega) (by rw [← h.r.arm]; omega))
  generalize (x.syncF n).2 = p at K1 X1
  generalize (x.syncF n).1 = x2 at RR X1
  generalize d.syncF.1 = d2 at RR K1 BD
  clear e1 R1 hc hr a0 c0
  unfold dp at K1
  unfold xp at X1
  unfold dp xp actV
  unfold actC at *
  go_enter Try.func28, Try.ntmps28
  go_wp2_with fail
  refine K1.out.mono ?_
  rintro e w1 ⟨rfl, m1, o1⟩
  have R1 := Both.ref h0.out o1
  go_wp2_with fail
  refine (X1.out _ R1).mono ?_
  rintro e w2 ⟨rfl, R2, o2⟩
  go_wp2_with fail
  go_ret
  exact ⟨by first | rfl | simp, (Both.step h0.out o1 m1 o2 R2 RR.out BD.out.1 BD.out.2).from_ O0⟩
set_option maxRecDepth 100000 in
set_option maxHeartbeats 2000000 in
theorem do_crash {w : World} {L : Loc} {M : XL} {n : Nat} {d : D} {x : X} (h : Both w L M n d x) (k i : Int) (k0 : (k == 0) = false) (k1 : (k == 1) = false) (k2 : (k == 2) = false) (k3 : (k == 3) = false) (k4 : (k == 4) = false) (s : ByteArray) (C : Cr) (hC : C.At w) (hm : C.m ≤ 9223372036854775807) (hap : ∀ ad, C.A = some ad → 0 < C.m → ad.block ∉ bfp L M) :
    Calls Try.prog 28 #[dp L.b, xp M.b, actV k i s C] w fun e w' => e = .returned (.bool true) ∧ Step w w' L M n d := by
  have O0 := (Below.refl w.heap.size w).alloc (Nat.le_refl _) (.cells (actC k i s C) 45)
  have h0 := Lib.hid (h.below O0)
  have C0 := hC.below O0
  have RR := Lib.hid (h.r.crash C)
  have hapM : ∀ ad, C.A = some ad → 0 < C.m → ad.block ∉ M.fp := fun ad e hp hx => hap ad e hp (List.mem_append_right _ hx)
  have hapL : ∀ ad, C.A = some ad → 0 < C.m → ad.block ∉ L.fp := fun ad e hp hx => hap ad e hp (List.mem_append_left _ hx)
  have K1 := Lib.hid (xcrash_any h0.out.rf C C0 hm hapM)
  have X1 := Lib.hid (fun (w1 : World) (hx : DiskAt w1 L n d) (hC1 : C.At w1) => crash_any hx C hC1 hm hapL)
  have C0 := Lib.hid C0
  have HM := Lib.hid hapM
  have BD := Lib.hid (show (d.crashF C n).calls ≤ d.calls + 1 ∧ (d.crashF C n).armed ≤ 9223372036854775807 from ⟨by show (D.crashTo C d n).1.calls ≤ _; rw [crash_same]; omega, by show (0 : Int) ≤ _; omega⟩)
  generalize x.crashF C n = x2 at RR K1
  generalize d.crashF C n = d2 at RR X1 BD
  clear hap hapM hapL hC
  unfold xp Cr.val at K1
  unfold dp Cr.val at X1
  unfold dp xp actV
  unfold actC at *
  go_enter Try.func28, Try.ntmps28
  go_wp2_with fail
  refine K1.out.mono ?_
  rintro e w1 ⟨rfl, m1, o1⟩
  have R1 := Both.dev h0.out o1
  have C1 := C0.out.only o1 HM.out
  have B0 := Lib.hid ((Blk.new w 45 (actC k i s C)).only o1 (fun e => Nat.lt_irrefl _ (h.rf.lt _ e)))
  have c3 := B0.out.cell_some (i := 3) rfl
  have c4 := B0.out.cell_some (i := 4) rfl
  have c5 := B0.out.cell_some (i := 5) rfl
  go_wp2_with fail
  refine (X1.out _ R1 C1).mono ?_
  rintro e w2 ⟨rfl, R2, o2⟩
  go_wp2_with fail
  go_ret
  exact ⟨by first | rfl | simp, (Both.step' h0.out o1 m1 o2 R2 RR.out BD.out.1 BD.out.2).from_ O0⟩
theorem armF_down {d : D} {k : Int} (h : d.down = true) : d.armF k = (d, 13) := by unfold D.armF; rw [if_pos h]
theorem armF_no {d : D} {k : Int} (h : d.down = false) (hk : k < 1) : d.armF k = (d, 2) := by unfold D.armF; rw [if_neg (by simp [h]), if_pos hk]
theorem armF_yes {d : D} {k : Int} (h : d.down = false) (hk : ¬ k < 1) : d.armF k = ({ d with armed := k }, 0) := by unfold D.armF; rw [if_neg (by simp [h]), if_neg hk]
set_option maxRecDepth 100000 in
set_option maxHeartbeats 2000000 in
theorem do_arm {w : World} {L : Loc} {M : XL} {n : Nat} {d : D} {x : X} (h : Both w L M n d x) (hr : d.armed ≤ 9223372036854775807) (i : Int) (hi : i ≤ 9223372036854775807) (s : ByteArray) (C : Cr) :
    Calls Try.prog 28 #[dp L.b, xp M.b, actV 4 i s C] w fun e w' => e = .returned (.bool true) ∧ Step w w' L M n d := by
  have O0 := (Below.refl w.heap.size w).alloc (Nat.le_refl _) (.cells (actC 4 i s C) 45)
  have h0 := Lib.hid (h.below O0)
  have B0 := Lib.hid (Blk.new w 45 (actC 4 i s C))
  have hbx : w.heap.size ∉ L.fp := fun e => Nat.lt_irrefl _ (h.dv.lt _ e)
  have K1 := Lib.hid (arm_any h0.out.dv i)
  have hdn := h.r.down
  have HR := Lib.hid h.r
  have hdc : d.calls ≤ d.calls + 1 := by omega
  have HB := Lib.hid hbx
  have HC := Lib.hid (show d.calls ≤ d.calls + 1 ∧ d.armed ≤ 9223372036854775807 from ⟨hdc, hr⟩)
  have HX := Lib.hid h
  clear hdc hbx h hr
  unfold dp at K1
  unfold dp xp actV
  unfold actC at *
  cases hd : x.down
  · have HD := Lib.hid hd
    by_cases hi1 : i < 1
    · rw [armF_no (hdn.trans hd) hi1] at K1
      clear hd hdn
      go_enter Try.func28, Try.ntmps28
      go_wp2_with fail
      refine K1.out.mono ?_
      rintro e w1 ⟨rfl, m1, o1⟩
      have R1 := Both.ref h0.out o1
      have B1 := B0.out.only o1 HB.out
      have c1 := B1.cell_some (i := 1) rfl
      have f5 := R1.f5
      rw [HD.out] at f5
      go_wp2_with fail
      go_ret
      exact ⟨by first | rfl | simp, (Both.step h0.out o1 m1 (Only.refl _ _) R1 HR.out HC.out.1 HC.out.2).from_ O0⟩
    · rw [armF_yes (hdn.trans hd) hi1] at K1
      clear hd hdn
      have RR := Lib.hid (HR.out.armed i (by omega))
      go_enter Try.func28, Try.ntmps28
      go_wp2_with fail
      refine K1.out.mono ?_
      rintro e w1 ⟨rfl, m1, o1⟩
      have R1 := Both.ref h0.out o1
      have B1 := B0.out.only o1 HB.out
      have c1 := B1.cell_some (i := 1) rfl
      have f5 := R1.f5
      have f3 := R1.f3
      have z3 := R1.fz 3 (by omega)
      rw [HD.out] at f5
      go_wp2_with fail
      go_ret
      have o3 : Only [M.b] w1 (w1.setCell ⟨M.b, 3, none⟩ (.int .i64 i)) := (Only.refl _ _).setCell (by simp) _
      exact ⟨by first | rfl | simp, (Both.step h0.out o1 m1 (o3.mono (by simp [XL.fp])) (R1.head (x' := { x with arm := i }) (R1.hb.set_ 3 _) o3 rfl rfl rfl) RR.out HC.out.1 (by exact hi)).from_ O0⟩
  · rw [armF_down (hdn.trans hd)] at K1
    have HD := Lib.hid hd
    clear hd hdn
    go_enter Try.func28, Try.ntmps28
    go_wp2_with fail
    refine K1.out.mono ?_
    rintro e w1 ⟨rfl, m1, o1⟩
    have R1 := Both.ref h0.out o1
    have f5 := R1.f5
    rw [HD.out] at f5
    go_wp2_with fail
    go_ret
    exact ⟨by first | rfl | simp, (Both.step h0.out o1 m1 (Only.refl _ _) R1 HR.out HC.out.1 HC.out.2).from_ O0⟩
end Go.Proofs.Ytclompapmbhijaa.Dk
