/- pool by its contracts: Hold. -/
import Derived.Test.YtbelcgjbhpjnpaaGreatSh16
namespace Go.Proofs.YtbelcgjbhpjnpaaGreat.Sh
open Go.RowKit Pk Dk Pg
attribute [local go_sem ↓] Go.wp_at_zero Go.wp_at_succ
set_option maxRecDepth 100000 in
set_option maxHeartbeats 2000000 in
theorem hold_hit {w : World} {y : Y} {n : Nat} {s : PS} (h : AtP w y n s) (p : Int) (k : Nat) {f : Fr} (hk : findF s.l p = (k : Nat)) (hf : s.l[k]? = some f) (hb : -1000 ≤ f.held ∧ f.held ≤ 1000000) :
    Calls Tryz.prog 52 #[pp y.pb, .int .i64 p] w fun e w' => e = .returned (.tuple #[.string f.pay, .int .i64 0]) ∧ AtP w' y n { s with l := s.l.set k { f with held := f.held + 1, used := true } } ∧ Only y.fp w w' := by
  have KF := Lib.hid (find_any h p)
  rw [hk] at KF
  have hkl : k < s.l.length := (List.getElem?_eq_some_iff.1 hf).1
  have hkI : (k : Int) < (s.l.length : Int) := by omega
  have hk0 : (0 : Int) ≤ (k : Int) := by omega
  have HB := Lib.hid (fun w' (hb : Below w.heap.size w w') => h.below hb)
  have m1 : IntKind.i64.wrap (f.held + 1) = f.held + 1 := IntWalk.i64_in _ (by omega)
  have HF := Lib.hid hf
  have HL := Lib.hid h.l2
  clear h hk hf hb
  unfold pp at *
  go_enter Tryz.func52, Tryz.ntmps52
  go_wp2_with fail
  refine KF.out.mono ?_
  rintro e w1 ⟨rfl, hb1⟩
  have O1 := Lib.hid hb1
  have A1 := HB.out w1 hb1
  have p1 := A1.p1
  have A2 := A1.setF k 2 (by omega) { f with held := f.held + 1 } (.int .i64 (f.held + 1)) HF.out rfl
  obtain ⟨z1, A3, o3⟩ := A2
  have hf2 : (s.l.set k { f with held := f.held + 1 })[k]? = some { f with held := f.held + 1 } := by rw [List.getElem?_set_self hkl]
  obtain ⟨z2, A4, o4⟩ := A3.setF k 4 (by omega) { f with held := f.held + 1, used := true } (.bool true) hf2 rfl
  have hf4 : ((s.l.set k { f with held := f.held + 1 }).set k { f with held := f.held + 1, used := true })[k]? = some { f with held := f.held + 1, used := true } := by rw [List.getElem?_set_self (by simpa using hkl)]
  obtain ⟨_, x1, _, _, _⟩ := A4.frs k _ hf4
  obtain ⟨_, _, y2, _, _⟩ := A1.frs k f HF.out
  obtain ⟨_, _, _, _, y4⟩ := A3.frs k _ hf2
  simp only [List.set_set] at A4
  have AZ := Lib.hid A4
  have OZ := Lib.hid ((Only.of_below (S := y.fp) O1.out).trans (o3.trans o4))
  clear hb1 A1 A3 A4 o3 o4 hf2 hf4
  go_wp2_with fail
  go_ret2
  exact ⟨by first | rfl | simp, AZ.out, OZ.out⟩
set_option maxRecDepth 100000 in
set_option maxHeartbeats 2000000 in
theorem hold_bad {w : World} {y : Y} {n : Nat} {s : PS} (h : AtP w y n s) (p : Int) (hk : findF s.l p = -1) (hr : (s.c.readF n p).2 ≠ 0) :
    Calls Tryz.prog 52 #[pp y.pb, .int .i64 p] w fun e w' => e = .returned (.tuple #[.string ⟨#[]⟩, .int .i64 (s.c.readF n p).2]) ∧ Below w.heap.size w w' := by
  have KF := Lib.hid (find_any h p)
  rw [hk] at KF
  have HB := Lib.hid (fun w' (hb : Below w.heap.size w w') => h.below hb)
  have KR := Lib.hid (fun w' (hb : Below w.heap.size w w') => read_any (h.below hb).hs p)
  have hq : ((s.c.readF n p).2 == 0) = false := by rw [beq_eq_false_iff_ne]; exact hr
  have hq2 : ((s.c.readF n p).2 != 0) = true := by rw [bne_iff_ne]; exact hr
  generalize s.c.readF n p = R at *
  clear h hk
  unfold pp sp at *
  go_enter Tryz.func52, Tryz.ntmps52
  go_wp2_with fail
  refine KF.out.mono ?_
  rintro e w1 ⟨rfl, hb1⟩
  have O1 := Lib.hid hb1
  have p0 := (HB.out w1 hb1).p0
  clear hb1
  go_wp2_with fail
  refine (KR.out w1 O1.out).mono ?_
  rintro e w2 ⟨rfl, hb2⟩
  have O2 := Lib.hid (bstep O1.out hb2)
  clear hb2
  go_wp2_with fail
  go_ret2
  exact ⟨by first | rfl | simp, O2.out⟩
set_option maxRecDepth 100000 in
set_option maxHeartbeats 2000000 in
theorem hold_full {w : World} {y : Y} {n : Nat} {s : PS} (h : AtP w y n s) (p : Int) (hk : findF s.l p = -1) (hr : (s.c.readF n p).2 = 0) (hv : s.victimF.2 < 0) :
    Calls Tryz.prog 52 #[pp y.pb, .int .i64 p] w fun e w' => e = .returned (.tuple #[.string ⟨#[]⟩, .int .i64 12]) ∧ AtP w' y n s.victimF.1 ∧ Only y.fp w w' := by
  have KF := Lib.hid (find_any h p)
  rw [hk] at KF
  have HB := Lib.hid (fun w' (hb : Below w.heap.size w w') => h.below hb)
  have KR := Lib.hid (fun w' (hb : Below w.heap.size w w') => read_any (h.below hb).hs p)
  have KV := Lib.hid (fun w' (hb : Below w.heap.size w w') => victim_any (h.below hb))
  rw [hr] at KR
  generalize (s.c.readF n p).1 = R at *
  generalize s.victimF = V at *
  clear h hk
  unfold pp sp at *
  go_enter Tryz.func52, Tryz.ntmps52
  go_wp2_with fail
  refine KF.out.mono ?_
  rintro e w1 ⟨rfl, hb1⟩
  have O1 := Lib.hid hb1
  have p0 := (HB.out w1 hb1).p0
  clear hb1
  go_wp2_with fail
  refine (KR.out w1 O1.out).mono ?_
  rintro e w2 ⟨rfl, hb2⟩
  have O2 := Lib.hid (bstep O1.out hb2)
  clear hb2
  go_wp2_with fail
  refine (KV.out w2 O2.out).mono ?_
  rintro e w3 ⟨rfl, A3, o3⟩
  have A3 := Lib.hid A3
  have o3 := Lib.hid ((Only.of_below (S := y.fp) O2.out).trans o3)
  go_wp2_with fail
  go_ret2
  exact ⟨by first | rfl | simp, A3.out, o3.out⟩
end Go.Proofs.YtbelcgjbhpjnpaaGreat.Sh
