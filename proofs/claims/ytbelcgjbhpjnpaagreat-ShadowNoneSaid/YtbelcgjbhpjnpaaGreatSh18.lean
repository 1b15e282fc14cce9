/- pool by its contracts: Hold, a page comes in. -/
import Derived.Test.YtbelcgjbhpjnpaaGreatSh17
namespace Go.Proofs.YtbelcgjbhpjnpaaGreat.Sh
open Go.RowKit Pk Dk Pg
attribute [local go_sem ↓] Go.wp_at_zero Go.wp_at_succ
set_option maxRecDepth 100000 in
set_option maxHeartbeats 2000000 in
theorem hold_new {w : World} {y : Y} {n : Nat} {s : PS} (h : AtP w y n s) (p : Int) (hk : findF s.l p = -1) (hr : (s.c.readF n p).2 = 0) (k : Nat) (hv : s.victimF.2 = (k : Nat)) {f : Fr} (hf : s.victimF.1.l[k]? = some f) (hd : f.dirty = false) :
    Calls Tryz.prog 52 #[pp y.pb, .int .i64 p] w fun e w' => e = .returned (.tuple #[.string ⟨(s.c.readF n p).1.toArray⟩, .int .i64 0]) ∧ AtP w' y n { s.victimF.1 with l := s.victimF.1.l.set k ⟨p, ⟨(s.c.readF n p).1.toArray⟩, 1, false, true⟩ } ∧ Only y.fp w w' := by
  have KF := Lib.hid (find_any h p)
  rw [hk] at KF
  have HB := Lib.hid (fun w' (hb : Below w.heap.size w w') => h.below hb)
  have KR := Lib.hid (fun w' (hb : Below w.heap.size w w') => read_any (h.below hb).hs p)
  have KV := Lib.hid (fun w' (hb : Below w.heap.size w w') => victim_any (h.below hb))
  rw [hr] at KR
  rw [hv] at KV
  generalize (s.c.readF n p).1 = R at *
  generalize s.victimF.1 = V at *
  have KB := Lib.hid (fun w' (A : AtP w' y n V) => back_clean A k hf hd)
  have hkl : k < V.l.length := (List.getElem?_eq_some_iff.1 hf).1
  have hkI : (k : Int) < (V.l.length : Int) := by omega
  have hk0 : ¬ (k : Int) < 0 := by omega
  have HF := Lib.hid hf
  clear h hk hv hf hd
  unfold pp sp at *
  go_enter Tryz.func52, Tryz.ntmps52
  go_wp2_with fail
  refine KF.out.mono ?_
  rintro e w1 ⟨rfl, hb1⟩
  have O1 := Lib.hid hb1
  have p0 := (HB.out w1 hb1).p0
  clear hb1
  go_wp2_with fail
  refine (KR.out w1 O1.out).mono ?_
  rintro e w2 ⟨rfl, hb2⟩
  have O2 := Lib.hid (bstep O1.out hb2)
  clear hb2 p0
  go_wp2_with fail
  refine (KV.out w2 O2.out).mono ?_
  rintro e w3 ⟨rfl, A3, o3⟩
  have A3 := Lib.hid A3
  have o3 := Lib.hid ((Only.of_below (S := y.fp) O2.out).trans o3)
  go_wp2_with fail
  refine (KB.out w3 A3.out).mono ?_
  rintro e w4 ⟨rfl, hb4⟩
  have A4 := Lib.hid (A3.out.below hb4)
  have o4 := Lib.hid (o3.out.trans (Only.of_below (S := y.fp) hb4))
  have p1 := A4.out.p1
  have l2 := A4.out.l2
  obtain ⟨c0, c1, c2, c3, c4⟩ := A4.out.frs k f HF.out
  obtain ⟨z0, B0, q0⟩ := A4.out.setF k 0 (by omega) { f with page := p } (.int .i64 p) HF.out rfl
  rw [Nat.add_zero] at z0 B0 q0
  have g0 : (V.l.set k { f with page := p })[k]? = some { f with page := p } := by rw [List.getElem?_set_self hkl]
  obtain ⟨z1, B1, q1⟩ := B0.setF k 1 (by omega) { f with page := p, pay := ⟨R.toArray⟩ } (.string ⟨R.toArray⟩) g0 rfl
  simp only [List.set_set] at B1
  have g1 : (V.l.set k { f with page := p, pay := ⟨R.toArray⟩ })[k]? = some { f with page := p, pay := ⟨R.toArray⟩ } := by rw [List.getElem?_set_self hkl]
  obtain ⟨z2, B2, q2⟩ := B1.setF k 2 (by omega) { f with page := p, pay := ⟨R.toArray⟩, held := 1 } (.int .i64 1) g1 rfl
  simp only [List.set_set] at B2
  have g2 : (V.l.set k { f with page := p, pay := ⟨R.toArray⟩, held := 1 })[k]? = some { f with page := p, pay := ⟨R.toArray⟩, held := 1 } := by rw [List.getElem?_set_self hkl]
  obtain ⟨z3, B3, q3⟩ := B2.setF k 3 (by omega) { f with page := p, pay := ⟨R.toArray⟩, held := 1, dirty := false } (.bool false) g2 rfl
  simp only [List.set_set] at B3
  have g3 : (V.l.set k { f with page := p, pay := ⟨R.toArray⟩, held := 1, dirty := false })[k]? = some { f with page := p, pay := ⟨R.toArray⟩, held := 1, dirty := false } := by rw [List.getElem?_set_self hkl]
  obtain ⟨z4, B4, q4⟩ := B3.setF k 4 (by omega) ⟨p, ⟨R.toArray⟩, 1, false, true⟩ (.bool true) g3 rfl
  simp only [List.set_set] at B4
  have AZ := Lib.hid B4
  have OZ := Lib.hid (o4.out.trans ((((q0.trans q1).trans q2).trans q3).trans q4))
  clear hb4 B0 B1 B2 B3 B4 q0 q1 q2 q3 q4 g0 g1 g2 g3
  go_wp2_with fail
  go_ret2
  exact ⟨by first | rfl | simp, AZ.out, OZ.out⟩
end Go.Proofs.YtbelcgjbhpjnpaaGreat.Sh
