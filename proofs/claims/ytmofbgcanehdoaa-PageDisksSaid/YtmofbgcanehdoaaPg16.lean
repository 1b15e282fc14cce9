/- pages: every page's bytes; what any bytes are. -/
import Derived.Test.YtmofbgcanehdoaaPg15
namespace Go.Proofs.Ytmofbgcanehdoaa.Pg
open Go.RowKit Pk Dk
attribute [local go_sem ↓] Go.wp_at_zero Go.wp_at_succ
set_option maxRecDepth 100000 in
set_option maxHeartbeats 4000000 in
theorem puts_any {w : World} (id ep kd : Int) (s : ByteArray) (hid : id ≤ 9223372036854775807) (hs : s.size ≤ maxLen) :
    Calls Try.prog 3 #[pageV id ep kd s] w fun e w' => e = .returned (.bool true) ∧ Below w.heap.size w w' := by
  have B0 := Lib.hid (Blk.new w 23 #[.int .i64 id, .int .i64 ep, .int .i64 kd, .string s])
  have O0 := Lib.hid (belowAlloc (Below.refl w.heap.size w) (.cells #[.int .i64 id, .int .i64 ep, .int .i64 kd, .string s] 23))
  have KA := Lib.hid awake11_any
  unfold maxLen at hs
  by_cases hbig : 600 < s.size
  · have hI : (600 : Int) < (s.size : Int) := by omega
    obtain ⟨T, hT⟩ : ∃ T, s.extract 0 600 = T := ⟨_, rfl⟩
    have KP := fun w => pput_any (w := w) id ep kd T hid
    have KQ := fun w => rput_any (w := w) id ep kd T hid
    obtain ⟨R, hR⟩ : ∃ R : ByteArray, (⟨(putF id ep kd T.data.toList).1.toArray⟩ : ByteArray) = R := ⟨_, rfl⟩
    rw [hR] at KP KQ
    generalize (putF id ep kd T.data.toList).2 = er at *
    have KP := Lib.hid KP
    have KQ := Lib.hid KQ
    have B1 := Lib.hid (Blk.new w 23 #[.int .i64 id, .int .i64 ep, .int .i64 kd, .string T])
    have O1 := Lib.hid (belowAlloc (Below.refl w.heap.size w) (.cells #[.int .i64 id, .int .i64 ep, .int .i64 kd, .string T] 23))
    have z3 := B0.out.frozen 3 (by simp)
    have c0 := B0.out.cell_some (i := 0) rfl
    have c1 := B0.out.cell_some (i := 1) rfl
    have c2 := B0.out.cell_some (i := 2) rfl
    have c3 := B0.out.cell_some (i := 3) rfl
    clear hR
    unfold pageV at *
    go_enter Try.func3, Try.ntmps3
    go_wp2_with fail
    refine (KP.out _).mono ?_
    rintro e w1 ⟨rfl, hb1⟩
    have O2 := Lib.hid (bstep O1.out hb1)
    have B2 := Lib.hid (B1.out.below hb1 B1.out.lt)
    clear hb1 c0 c1 c2 c3 z3
    have c0 := B2.out.cell_some (i := 0) rfl
    have c1 := B2.out.cell_some (i := 1) rfl
    have c2 := B2.out.cell_some (i := 2) rfl
    have c3 := B2.out.cell_some (i := 3) rfl
    go_wp2_with fail
    refine (KQ.out _).mono ?_
    rintro e w2 ⟨rfl, hb2⟩
    have O3 := Lib.hid (bstep O2.out hb2)
    clear hb2
    go_wp2_with fail
    refine (KA.out _).mono ?_
    rintro e w3 ⟨rfl, hb3⟩
    have O4 := Lib.hid (bstep O3.out hb3)
    clear hb3
    go_wp2_with fail
    go_ret
    exact ⟨by first | rfl | simp, O4.out⟩
  · have hI : ¬ (600 : Int) < (s.size : Int) := by omega
    have KP := fun w => pput_any (w := w) id ep kd s hid
    have KQ := fun w => rput_any (w := w) id ep kd s hid
    obtain ⟨R, hR⟩ : ∃ R : ByteArray, (⟨(putF id ep kd s.data.toList).1.toArray⟩ : ByteArray) = R := ⟨_, rfl⟩
    rw [hR] at KP KQ
    generalize (putF id ep kd s.data.toList).2 = er at *
    have KP := Lib.hid KP
    have KQ := Lib.hid KQ
    have c0 := B0.out.cell_some (i := 0) rfl
    have c1 := B0.out.cell_some (i := 1) rfl
    have c2 := B0.out.cell_some (i := 2) rfl
    have c3 := B0.out.cell_some (i := 3) rfl
    clear hR
    unfold pageV at *
    go_enter Try.func3, Try.ntmps3
    go_wp2_with fail
    refine (KP.out _).mono ?_
    rintro e w1 ⟨rfl, hb1⟩
    have O2 := Lib.hid (bstep O0.out hb1)
    have B2 := Lib.hid (B0.out.below hb1 B0.out.lt)
    clear hb1 c0 c1 c2 c3
    have c0 := B2.out.cell_some (i := 0) rfl
    have c1 := B2.out.cell_some (i := 1) rfl
    have c2 := B2.out.cell_some (i := 2) rfl
    have c3 := B2.out.cell_some (i := 3) rfl
    go_wp2_with fail
    refine (KQ.out _).mono ?_
    rintro e w2 ⟨rfl, hb2⟩
    have O3 := Lib.hid (bstep O2.out hb2)
    clear hb2
    go_wp2_with fail
    refine (KA.out _).mono ?_
    rintro e w3 ⟨rfl, hb3⟩
    have O4 := Lib.hid (bstep O3.out hb3)
    clear hb3
    go_wp2_with fail
    go_ret
    exact ⟨by first | rfl | simp, O4.out⟩
set_option maxRecDepth 100000 in
set_option maxHeartbeats 4000000 in
theorem gets_any {w : World} (s : ByteArray) (hs : s.size ≤ maxLen) :
    Calls Try.prog 4 #[.string s] w fun e w' => e = .returned (.bool true) ∧ Below w.heap.size w w' := by
  have KA := Lib.hid awake11_any
  have KP := Lib.hid (fun (T : ByteArray) (w : World) => pget_any (w := w) T)
  have KQ := Lib.hid (fun (T : ByteArray) (w : World) => rget_any (w := w) T)
  unfold maxLen at hs
  by_cases hbig : 600 < s.size
  · have hI : (600 : Int) < (s.size : Int) := by omega
    go_enter Try.func4, Try.ntmps4
    go_wp2_with fail
    generalize hT : s.extract 0 600 = T at *
    clear hT
    refine (KP.out T _).mono ?_
    rintro e w1 ⟨rfl, hb1⟩
    obtain ⟨w2, hw2⟩ : ∃ w2, w1 = w2 := ⟨_, rfl⟩
    have KQ := KQ.out T
    generalize (gotF T.data.toList).2 = er at *
    generalize (gotF T.data.toList).1 = PP at *
    have KQ := Lib.hid KQ
    obtain ⟨pid, pep, pkd, ps⟩ := PP
    have O1 := Lib.hid (belowAlloc hb1 (.cells #[.int .i64 pid, .int .i64 pep, .int .i64 pkd, .string ⟨ps.toArray⟩] 23))
    have P1 := Lib.hid (Blk.new w1 23 #[.int .i64 pid, .int .i64 pep, .int .i64 pkd, .string ⟨ps.toArray⟩])
    unfold PG.val pageV at *
    dsimp only at *
    clear hb1 hw2
    go_wp2_with fail
    generalize hw3 : w1.alloc (.cells #[.int .i64 pid, .int .i64 pep, .int .i64 pkd, .string ⟨ps.toArray⟩] 23) = w3 at *
    clear hw3
    refine (KQ.out _).mono ?_
    rintro e w4 ⟨rfl, hb4⟩
    have O4 := Lib.hid (belowAlloc (bstep O1.out hb4) (.cells #[.int .i64 pid, .int .i64 pep, .int .i64 pkd, .string ⟨ps.toArray⟩] 23))
    have P4 := Lib.hid ((P1.out.below hb4 P1.out.lt).alloc (.cells #[.int .i64 pid, .int .i64 pep, .int .i64 pkd, .string ⟨ps.toArray⟩] 23))
    have Q4 := Lib.hid (Blk.new w4 23 #[.int .i64 pid, .int .i64 pep, .int .i64 pkd, .string ⟨ps.toArray⟩])
    clear hb4 O1 P1
    go_wp2_with fail
    generalize hw5 : w4.alloc (.cells #[.int .i64 pid, .int .i64 pep, .int .i64 pkd, .string ⟨ps.toArray⟩] 23) = w5 at *
    clear hw5
    refine (KA.out _).mono ?_
    rintro e w6 ⟨rfl, hb6⟩
    have O6 := Lib.hid (bstep O4.out hb6)
    have P6 := P4.out.below hb6 P4.out.lt
    have Q6 := Q4.out.below hb6 Q4.out.lt
    clear hb6
    have c0 := P6.cell_some (i := 0) rfl
    have c1 := P6.cell_some (i := 1) rfl
    have c2 := P6.cell_some (i := 2) rfl
    have c3 := P6.cell_some (i := 3) rfl
    have q0 := Q6.cell_some (i := 0) rfl
    have q1 := Q6.cell_some (i := 1) rfl
    have q2 := Q6.cell_some (i := 2) rfl
    have q3 := Q6.cell_some (i := 3) rfl
    clear P6 Q6
    go_wp2_with fail
    go_ret
    exact ⟨by first | rfl | simp, O6.out⟩
  · have hI : ¬ (600 : Int) < (s.size : Int) := by omega
    obtain ⟨T, rfl⟩ : ∃ T, T = s := ⟨_, rfl⟩
    go_enter Try.func4, Try.ntmps4
    go_wp2_with fail
    refine (KP.out T _).mono ?_
    rintro e w1 ⟨rfl, hb1⟩
    obtain ⟨w2, hw2⟩ : ∃ w2, w1 = w2 := ⟨_, rfl⟩
    have KQ := KQ.out T
    generalize (gotF T.data.toList).2 = er at *
    generalize (gotF T.data.toList).1 = PP at *
    have KQ := Lib.hid KQ
    obtain ⟨pid, pep, pkd, ps⟩ := PP
    have O1 := Lib.hid (belowAlloc hb1 (.cells #[.int .i64 pid, .int .i64 pep, .int .i64 pkd, .string ⟨ps.toArray⟩] 23))
    have P1 := Lib.hid (Blk.new w1 23 #[.int .i64 pid, .int .i64 pep, .int .i64 pkd, .string ⟨ps.toArray⟩])
    unfold PG.val pageV at *
    dsimp only at *
    clear hb1 hw2
    go_wp2_with fail
    generalize hw3 : w1.alloc (.cells #[.int .i64 pid, .int .i64 pep, .int .i64 pkd, .string ⟨ps.toArray⟩] 23) = w3 at *
    clear hw3
    refine (KQ.out _).mono ?_
    rintro e w4 ⟨rfl, hb4⟩
    have O4 := Lib.hid (belowAlloc (bstep O1.out hb4) (.cells #[.int .i64 pid, .int .i64 pep, .int .i64 pkd, .string ⟨ps.toArray⟩] 23))
    have P4 := Lib.hid ((P1.out.below hb4 P1.out.lt).alloc (.cells #[.int .i64 pid, .int .i64 pep, .int .i64 pkd, .string ⟨ps.toArray⟩] 23))
    have Q4 := Lib.hid (Blk.new w4 23 #[.int .i64 pid, .int .i64 pep, .int .i64 pkd, .string ⟨ps.toArray⟩])
    clear hb4 O1 P1
    go_wp2_with fail
    generalize hw5 : w4.alloc (.cells #[.int .i64 pid, .int .i64 pep, .int .i64 pkd, .string ⟨ps.toArray⟩] 23) = w5 at *
    clear hw5
    refine (KA.out _).mono ?_
    rintro e w6 ⟨rfl, hb6⟩
    have O6 := Lib.hid (bstep O4.out hb6)
    have P6 := P4.out.below hb6 P4.out.lt
    have Q6 := Q4.out.below hb6 Q4.out.lt
    clear hb6
    have c0 := P6.cell_some (i := 0) rfl
    have c1 := P6.cell_some (i := 1) rfl
    have c2 := P6.cell_some (i := 2) rfl
    have c3 := P6.cell_some (i := 3) rfl
    have q0 := Q6.cell_some (i := 0) rfl
    have q1 := Q6.cell_some (i := 1) rfl
    have q2 := Q6.cell_some (i := 2) rfl
    have q3 := Q6.cell_some (i := 3) rfl
    clear P6 Q6
    go_wp2_with fail
    go_ret
    exact ⟨by first | rfl | simp, O6.out⟩
end Go.Proofs.Ytmofbgcanehdoaa.Pg
