/- a pool by its contracts: Set, Let. -/
import Derived.Test.YtbelcgjbhpjnpaaGreatZb
set_option linter.all false
set_option linter.unusedVariables false
set_option linter.unusedSimpArgs false
namespace Go.Proofs.YtbelcgjbhpjnpaaGreat.Sh
open Go.RowKit Pk Dk Pg
attribute [local go_sem ↓] Go.wp_at_zero Go.wp_at_succ
theorem info_u8 : (Tryz.prog.info? 5).map (fun i => (i.zero, i.size, i.bytes)) = some (some (.int .u8 0), 1, 1) := by kernel_rfl
theorem mk_bytes (n : Nat) (h1 : n ≤ 140737488355328) (w : World) :
  (Instr.makeSlice 141 (.int .i64 n) (.int .i64 n)).run Tryz.prog w = .ok (.slice (some ⟨w.heap.size, 0, none⟩) n n) (w.alloc (.cells (bvs (List.replicate n 0)).toArray 5)) := by
 obtain ⟨i0, hi, hz0, hz1, hz2⟩ := info_parts info_u8
 have h := run_make (P := Tryz.prog) w 141 5 i0 (.int .u8 0) Tryz.underlying141 hi hz0 .i64 .i64 n n (by omega) (Int.le_refl _) (by rw [hz2]; omega) (by omega)
 rw [h, hz1]
 have e : madeCells (Value.int .u8 0).cells (((n : Int).toNat) * 1) = (bvs (List.replicate n 0)).toArray := by
  show madeCells #[Value.int .u8 0] (n * 1) = _
  rw [Nat.mul_one, madeCells_one]; simp [bvs, bv]
 rw [e]
 rfl
theorem full_eq (b : ByteArray) : b ++ (⟨(List.replicate (232 - b.size) (0 : UInt8)).toArray⟩ : ByteArray) = fullB b := by
 apply ByteArray.ext
 unfold fullB padL
 rw [ByteArray.data_append]
 simp
theorem fullB_size {b : ByteArray} (h : b.size ≤ 232) : (fullB b).size = 232 := by
 have hl : b.data.toList.length = b.size := by simp
 show (padL b.data.toList 232).toArray.size = 232
 unfold padL
 simp
 omega
set_option maxRecDepth 100000 in
set_option maxHeartbeats 4000000 in
theorem set_in {w : World} {y : Y} {n : Nat} {s : PS} (h : AtP w y n s) (p : Int) (b : ByteArray) (hb : b.size ≤ 232) {k : Nat} {f : Fr} (hh : s.heldF p = some (k, f)) :
  Calls Tryz.prog 57 #[pp y.pb, .int .i64 p, .string b] w fun e w' => e = .returned (.int .i64 0) ∧ AtP w' y n { s with l := s.l.set k { f with pay := fullB b, dirty := true, used := true } } ∧ Only y.fp w w' := by
 have KH := Lib.hid (held_any h p)
 rw [hh] at KH
 obtain ⟨hf, _, _⟩ := heldF_some hh
 have hkl : k < s.l.length := (List.getElem?_eq_some_iff.1 hf).1
 have l2 := h.l2
 have HF := Lib.hid hf
 have HA := Lib.hid (fun W (hb : Below w.heap.size w W) => h.below hb)
 have hbI : ¬ (232 : Int) < (b.size : Int) := by omega
 obtain ⟨m, hm⟩ : ∃ m, 232 - b.size = m := ⟨_, rfl⟩
 have em : IntKind.i64.wrap (232 - (b.size : Int)) = (m : Int) := by rw [show (232 : Int) - (b.size : Int) = (m : Int) by omega]; exact IntWalk.i64_in _ (by omega)
 have hmk := fun W => mk_bytes m (by omega) W
 have HCV := Lib.hid (fun (W : World) => (run_string_of (P := Tryz.prog) (W.alloc (.cells (bvs (List.replicate m 0)).toArray 5)) 141 9 5 Tryz.underlying141 Tryz.underlying5 Tryz.underlying9 ⟨W.heap.size, 0, none⟩ m m (List.replicate m 0) (by simp) (cells_at (Blk.new W 5 (bvs (List.replicate m 0)).toArray) 0 _ (by intro j u hu; rw [Nat.zero_add]; simpa using hu))))
 obtain ⟨FB, hFB⟩ : ∃ FB, fullB b = FB := ⟨_, rfl⟩
 have HCAT := Lib.hid (full_eq b)
 rw [hFB] at HCAT
 rw [hFB]
 rw [hm] at HCAT
 have hm0 : (0 : Int) ≤ (m : Int) := by omega
 have hsz : ¬ 9223372036854775807 < b.size + (⟨(List.replicate m (0 : UInt8)).toArray⟩ : ByteArray).size := by
  have : (⟨(List.replicate m (0 : UInt8)).toArray⟩ : ByteArray).size = m := by show (List.replicate m (0 : UInt8)).toArray.size = m; simp
  omega
 have hm2 : m ≤ 232 := by omega
 generalize (⟨(List.replicate m (0 : UInt8)).toArray⟩ : ByteArray) = ZZ at *
 generalize (bvs (List.replicate m (0 : UInt8))).toArray = ZC at *
 clear h hh hf hm hb hFB
 unfold pp heldV at *
 go_enter Tryz.func57, Tryz.ntmps57
 go_wp2_with fail
 refine KH.out.mono ?_
 rintro e w1 ⟨rfl, hb1⟩
 have O1 := Lib.hid hb1
 have A1 := Lib.hid (HA.out _ (belowAlloc hb1 (.cells ZC 5)))
 have O1' := Lib.hid (belowAlloc hb1 (.cells ZC 5))
 clear hb1
 go_wp2_with fail
 rw [HCV.out w1]
 clear hmk
 generalize (w1.alloc (.cells ZC 5)) = w2 at *
 have hcat := HCAT.out
 obtain ⟨c0, c1, c2, c3, c4⟩ := A1.out.frs k f HF.out
 obtain ⟨z1, B1, q1⟩ := A1.out.setF k 1 (by omega) { f with pay := FB } (.string (FB)) HF.out rfl
 have g1 : (s.l.set k { f with pay := FB })[k]? = some { f with pay := FB } := by rw [List.getElem?_set_self hkl]
 obtain ⟨z2, B2, q2⟩ := B1.setF k 3 (by omega) { f with pay := FB, dirty := true } (.bool true) g1 rfl
 simp only [List.set_set] at B2
 have g2 : (s.l.set k { f with pay := FB, dirty := true })[k]? = some { f with pay := FB, dirty := true } := by rw [List.getElem?_set_self hkl]
 obtain ⟨z3, B3, q3⟩ := B2.setF k 4 (by omega) { f with pay := FB, dirty := true, used := true } (.bool true) g2 rfl
 simp only [List.set_set] at B3
 have AZ := Lib.hid B3
 have OZ := Lib.hid ((Only.of_below (S := y.fp) O1'.out).trans ((q1.trans q2).trans q3))
 clear B1 B2 B3 q1 q2 q3 g1 g2 hkl
 go_wp2_with fail
 go_ret
 exact ⟨by first | rfl | simp, AZ.out, OZ.out⟩
set_option maxRecDepth 100000 in
set_option maxHeartbeats 4000000 in
theorem set_out {w : World} {y : Y} {n : Nat} {s : PS} (h : AtP w y n s) (p : Int) (b : ByteArray) (hb : b.size ≤ 232) (hh : s.heldF p = none) :
  Calls Tryz.prog 57 #[pp y.pb, .int .i64 p, .string b] w fun e w' => e = .returned (.int .i64 16) ∧ Below w.heap.size w w' := by
 have KH := Lib.hid (held_any h p)
 rw [hh] at KH
 have hbI : ¬ (232 : Int) < (b.size : Int) := by omega
 clear h hh hb
 unfold pp heldV at *
 go_enter Tryz.func57, Tryz.ntmps57
 go_wp2_with fail
 refine KH.out.mono ?_
 rintro e w1 ⟨rfl, hb1⟩
 have O1 := Lib.hid hb1
 clear hb1
 go_wp2_with fail
 go_ret
 exact ⟨by first | rfl | simp, O1.out⟩
set_option maxRecDepth 100000 in
set_option maxHeartbeats 4000000 in
theorem set_big (w : World) (pb : Nat) (p : Int) (b : ByteArray) (hb : 232 < b.size) :
  Calls Tryz.prog 57 #[pp pb, .int .i64 p, .string b] w fun e w' => e = .returned (.int .i64 4) ∧ Below w.heap.size w w' := by
 have hbI : (232 : Int) < (b.size : Int) := by omega
 have O1 := Lib.hid (Below.refl w.heap.size w)
 clear hb
 unfold pp
 go_enter Tryz.func57, Tryz.ntmps57
 go_wp2_with fail
 go_ret
 exact ⟨by first | rfl | simp, O1.out⟩
theorem zset_any {w : World} {y : Y} {n K : Nat} {q : QS} (h : ZP w y n q K) (p : Int) (b : ByteArray) :
  Calls Tryz.prog 57 #[pp y.pb, .int .i64 p, .string b] w fun e w' => e = .returned (.int .i64 (q.setF p b).2) ∧ ZP w' y n (q.setF p b).1 K ∧ Only y.fp w w' := by
 obtain ⟨c, A, z⟩ := h
 unfold QS.setF
 by_cases hb : 232 < b.size
 ·rw [if_pos hb]
  exact (set_big w y.pb p b hb).mono fun e w' ⟨r, o⟩ => ⟨r, ⟨c, A.below o, z⟩, .of_below o⟩
 ·rw [if_neg hb]
  cases hh : q.heldF p with
  | none => exact (set_out A p b (by omega) (by rw [held_ps, hh])).mono fun e w' ⟨r, o⟩ => ⟨r, ⟨c, A.below o, z⟩, .of_below o⟩
  | some kf => exact (set_in A p b (by omega) (k := kf.1) (f := kf.2) (by rw [held_ps, hh])).mono fun e w' ⟨r, A', o⟩ => ⟨r, ⟨c, A', z⟩, o⟩
theorem zlet_any {w : World} {y : Y} {n K : Nat} {q : QS} (h : ZP w y n q K) (hb : Fb q.l K) (hK : K ≤ 1000000000000) (p : Int) :
  Calls Tryz.prog 56 #[pp y.pb, .int .i64 p] w fun e w' => e = .returned (.int .i64 (q.letF p).2) ∧ ZP w' y n (q.letF p).1 K ∧ Only y.fp w w' := by
 obtain ⟨c, A, z⟩ := h
 have hl := let_any A p (fun f hf => by have := hb f hf; omega)
 rw [let_ps] at hl
 refine hl.mono fun e w' ⟨r, A', o⟩ => ⟨r, ⟨c, A', ?_⟩, o⟩
 have : (q.letF p).1.a = q.a := by
  unfold QS.letF
  cases q.heldF p with
  | none => rfl
  | some kf => rfl
 rw [this]
 exact z
end Go.Proofs.YtbelcgjbhpjnpaaGreat.Sh
