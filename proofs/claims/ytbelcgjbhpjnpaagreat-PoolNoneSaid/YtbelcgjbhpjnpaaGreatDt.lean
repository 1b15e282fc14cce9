/- pool's laws: None. -/
import Derived.Test.YtbelcgjbhpjnpaaGreatDs
import Derived.Test.YtbelcgjbhpjnpaaGreatP1
set_option linter.all false
set_option linter.unusedVariables false
set_option linter.unusedSimpArgs false
namespace Go.Proofs.YtbelcgjbhpjnpaaGreat.Sh
open Go.RowKit Pk Dk Pg
attribute [local go_sem ↓] Go.wp_at_zero Go.wp_at_succ
set_option maxRecDepth 100000 in
set_option maxHeartbeats 8000000 in
theorem poolNone_low (kd l : Int) (s : ByteArray) (n : Int) (h1 : n < 1) (w : World) :
  Calls Tryz.prog 11 #[.agg #[.int .i64 kd, .int .i64 l, .string s], .int .i64 n] w fun e w' => e = .returned (.bool true) ∧ Below w.heap.size w w' := by
 obtain ⟨qb, hqb⟩ : ∃ q, w.heap.size = q := ⟨_, rfl⟩
 have B1 := Blk.new w 80 #[.int .i64 kd, .int .i64 l, .string s]
 have b1 := Rt.belowAlloc (Below.refl w.heap.size w) (.cells #[.int .i64 kd, .int .i64 l, .string s] 80)
 obtain ⟨w1, hw1⟩ : ∃ w1, w.alloc (.cells #[.int .i64 kd, .int .i64 l, .string s] 80) = w1 := ⟨_, rfl⟩
 rw [hw1, hqb] at B1
 rw [hw1] at b1
 have HC := Lib.hid (fun (W : World) (hW : Below w1.heap.size w1 W) => (show W.cell? ⟨qb, 1, none⟩ = some (.int .i64 l) ∧ W.cell? ⟨qb, 2, none⟩ = some (.string s) from
  have B := B1.below hW B1.lt
  ⟨B.cell_some (i := 1) rfl, B.cell_some (i := 2) rfl⟩))
 have HB1 := Lib.hid b1
 clear B1 b1
 have KA := Lib.hid awake15
 have K1 := Lib.hid (fun W => phold_nil l W)
 have K2 := Lib.hid (fun W => pget_nil l W)
 have K3 := Lib.hid (fun W => pnew_nil s W)
 have KCN := Lib.hid pcount_nil
 have K4 := Lib.hid (fun W => poolnew_nil n W)
 have K5 := Lib.hid (fun W => plet_nil l W)
 have K6 := Lib.hid (fun W => pset_nil l s W)
 have K7 := Lib.hid (fun W => pput_nil l s W)
 have K8 := Lib.hid (fun W => pdrop_nil l W)
 have K9 := Lib.hid (fun W => pevict_nil l W)
 have K10 := Lib.hid pcommit_nil
 have K11 := Lib.hid pabort_nil
 have K12 := Lib.hid ppages_nil
 have K13 := Lib.hid pstore_nil
 have KN := Lib.hid (fun W => Dk.new_yes 30 W (by omega) (by omega))
 have KF := Lib.hid (fun (W : World) (L : Dk.Loc) (h : DiskAt W L 30 (D.zero 30)) => format_any h (by decide) rfl rfl (by decide))
 have OO := Lib.hid (Below.refl w1.heap.size w1)
 obtain ⟨E0, hE0⟩ : ∃ E, (⟨#[]⟩ : ByteArray) = E := ⟨_, rfl⟩
 have hcat : E0 ++ E0 = E0 := by rw [← hE0]; rfl
 have hsz : ¬ 9223372036854775807 < E0.size + E0.size := by rw [← hE0]; decide
 have htl : E0.toList = ByteArray.toList ⟨#[]⟩ := by rw [← hE0]
 rw [hE0] at K1 K2
 clear hE0
 unfold dp sp at *
 have KG := Lib.hid (fun (b : Nat) (W : World) => poolnew_bad b n (.inl h1) W)
 unfold sp at KG
 have h1' : ¬ 1 ≤ n := by omega
 obtain ⟨c1, c2⟩ := HC.out _ OO.out
 go_enter Tryz.func11, Tryz.ntmps11
 go_wp2_with fail
 clear hw1 hqb
 refine (K1.out _).mono ?_
 rintro e wa ⟨rfl, rfl⟩
 go_wp2_with fail
 refine (K2.out _).mono ?_
 rintro e w2 ⟨rfl, hb⟩
 have O2 := Lib.hid (bstep OO.out hb)
 clear hb c1 c2
 obtain ⟨c1, c2⟩ := HC.out _ O2.out
 go_wp2_with fail
 refine (K3.out _).mono ?_
 rintro e wa ⟨rfl, rfl⟩
 go_wp2_with fail
 refine (KCN.out _).mono ?_
 rintro e wa ⟨rfl, rfl⟩
 go_wp2_with fail
 refine (K4.out _).mono ?_
 rintro e wa ⟨rfl, rfl⟩
 go_wp2_with fail
 refine (KN.out _).mono ?_
 rintro e w3 ⟨L, rfl, D3, hb, hL⟩
 have O3 := Lib.hid (bstep O2.out hb)
 have D3 := Lib.hid D3
 have HL := Lib.hid (show ∀ g ∈ L.fp, w1.heap.size ≤ g from fun g hg => Nat.le_trans O2.out.size (hL g hg))
 clear hb hL c1 c2
 go_wp2_with fail
 refine (KF.out _ _ D3.out).mono ?_
 rintro e w4 ⟨x, hxL, rfl, A4, o4, fx⟩
 have O4 := Lib.hid (O3.out.trans (o4.below_of O3.out.size HL.out))
 clear A4 o4 fx hxL
 go_wp2_with fail
 refine (KG.out x.b _).mono ?_
 rintro e w5 ⟨rfl, rfl⟩
 have O5 := Lib.hid O4.out
 go_wp2_with fail
 refine (KA.out _).mono ?_
 rintro e w6 ⟨rfl, hb⟩
 have O6 := Lib.hid (bstep O5.out hb)
 clear hb
 obtain ⟨c1, c2⟩ := HC.out _ O6.out
 go_wp2_with fail
 refine (K5.out _).mono ?_
 rintro e wa ⟨rfl, rfl⟩
 go_wp2_with fail
 refine (K6.out _).mono ?_
 rintro e wa ⟨rfl, rfl⟩
 go_wp2_with fail
 refine (K7.out _).mono ?_
 rintro e w7 ⟨rfl, hb⟩
 have O7 := Lib.hid (bstep O6.out hb)
 clear hb c1 c2
 obtain ⟨c1, c2⟩ := HC.out _ O7.out
 go_wp2_with fail
 refine (K8.out _).mono ?_
 rintro e wa ⟨rfl, rfl⟩
 go_wp2_with fail
 refine (K9.out _).mono ?_
 rintro e wa ⟨rfl, rfl⟩
 go_wp2_with fail
 refine (K10.out _).mono ?_
 rintro e wa ⟨rfl, rfl⟩
 go_wp2_with fail
 refine (K11.out _).mono ?_
 rintro e wa ⟨rfl, rfl⟩
 go_wp2_with fail
 refine (K12.out _).mono ?_
 rintro e wa ⟨rfl, rfl⟩
 go_wp2_with fail
 refine (K13.out _).mono ?_
 rintro e wa ⟨rfl, rfl⟩
 go_wp2_with fail
 go_ret
 exact ⟨by first | rfl | simp, bstep HB1.out O7.out⟩
set_option maxRecDepth 100000 in
set_option maxHeartbeats 8000000 in
theorem poolNone_high (kd l : Int) (s : ByteArray) (n : Int) (h1 : 32 < n) (w : World) :
  Calls Tryz.prog 11 #[.agg #[.int .i64 kd, .int .i64 l, .string s], .int .i64 n] w fun e w' => e = .returned (.bool true) ∧ Below w.heap.size w w' := by
 obtain ⟨qb, hqb⟩ : ∃ q, w.heap.size = q := ⟨_, rfl⟩
 have B1 := Blk.new w 80 #[.int .i64 kd, .int .i64 l, .string s]
 have b1 := Rt.belowAlloc (Below.refl w.heap.size w) (.cells #[.int .i64 kd, .int .i64 l, .string s] 80)
 obtain ⟨w1, hw1⟩ : ∃ w1, w.alloc (.cells #[.int .i64 kd, .int .i64 l, .string s] 80) = w1 := ⟨_, rfl⟩
 rw [hw1, hqb] at B1
 rw [hw1] at b1
 have HC := Lib.hid (fun (W : World) (hW : Below w1.heap.size w1 W) => (show W.cell? ⟨qb, 1, none⟩ = some (.int .i64 l) ∧ W.cell? ⟨qb, 2, none⟩ = some (.string s) from
  have B := B1.below hW B1.lt
  ⟨B.cell_some (i := 1) rfl, B.cell_some (i := 2) rfl⟩))
 have HB1 := Lib.hid b1
 clear B1 b1
 have KA := Lib.hid awake15
 have K1 := Lib.hid (fun W => phold_nil l W)
 have K2 := Lib.hid (fun W => pget_nil l W)
 have K3 := Lib.hid (fun W => pnew_nil s W)
 have KCN := Lib.hid pcount_nil
 have K4 := Lib.hid (fun W => poolnew_nil n W)
 have K5 := Lib.hid (fun W => plet_nil l W)
 have K6 := Lib.hid (fun W => pset_nil l s W)
 have K7 := Lib.hid (fun W => pput_nil l s W)
 have K8 := Lib.hid (fun W => pdrop_nil l W)
 have K9 := Lib.hid (fun W => pevict_nil l W)
 have K10 := Lib.hid pcommit_nil
 have K11 := Lib.hid pabort_nil
 have K12 := Lib.hid ppages_nil
 have K13 := Lib.hid pstore_nil
 have KN := Lib.hid (fun W => Dk.new_yes 30 W (by omega) (by omega))
 have KF := Lib.hid (fun (W : World) (L : Dk.Loc) (h : DiskAt W L 30 (D.zero 30)) => format_any h (by decide) rfl rfl (by decide))
 have OO := Lib.hid (Below.refl w1.heap.size w1)
 obtain ⟨E0, hE0⟩ : ∃ E, (⟨#[]⟩ : ByteArray) = E := ⟨_, rfl⟩
 have hcat : E0 ++ E0 = E0 := by rw [← hE0]; rfl
 have hsz : ¬ 9223372036854775807 < E0.size + E0.size := by rw [← hE0]; decide
 have htl : E0.toList = ByteArray.toList ⟨#[]⟩ := by rw [← hE0]
 rw [hE0] at K1 K2
 clear hE0
 unfold dp sp at *
 have KG := Lib.hid (fun (b : Nat) (W : World) => poolnew_bad b n (.inr h1) W)
 unfold sp at KG
 have h1' : 1 ≤ n := by omega
 have h2' : decide (n ≤ 32) = false := by rw [decide_eq_false_iff_not]; omega
 obtain ⟨c1, c2⟩ := HC.out _ OO.out
 go_enter Tryz.func11, Tryz.ntmps11
 go_wp2_with fail
 clear hw1 hqb
 refine (K1.out _).mono ?_
 rintro e wa ⟨rfl, rfl⟩
 go_wp2_with fail
 refine (K2.out _).mono ?_
 rintro e w2 ⟨rfl, hb⟩
 have O2 := Lib.hid (bstep OO.out hb)
 clear hb c1 c2
 obtain ⟨c1, c2⟩ := HC.out _ O2.out
 go_wp2_with fail
 refine (K3.out _).mono ?_
 rintro e wa ⟨rfl, rfl⟩
 go_wp2_with fail
 refine (KCN.out _).mono ?_
 rintro e wa ⟨rfl, rfl⟩
 go_wp2_with fail
 refine (K4.out _).mono ?_
 rintro e wa ⟨rfl, rfl⟩
 go_wp2_with fail
 refine (KN.out _).mono ?_
 rintro e w3 ⟨L, rfl, D3, hb, hL⟩
 have O3 := Lib.hid (bstep O2.out hb)
 have D3 := Lib.hid D3
 have HL := Lib.hid (show ∀ g ∈ L.fp, w1.heap.size ≤ g from fun g hg => Nat.le_trans O2.out.size (hL g hg))
 clear hb hL c1 c2
 go_wp2_with fail
 refine (KF.out _ _ D3.out).mono ?_
 rintro e w4 ⟨x, hxL, rfl, A4, o4, fx⟩
 have O4 := Lib.hid (O3.out.trans (o4.below_of O3.out.size HL.out))
 clear A4 o4 fx hxL
 go_wp2_with fail
 refine (KG.out x.b _).mono ?_
 rintro e w5 ⟨rfl, rfl⟩
 have O5 := Lib.hid O4.out
 go_wp2_with fail
 refine (KA.out _).mono ?_
 rintro e w6 ⟨rfl, hb⟩
 have O6 := Lib.hid (bstep O5.out hb)
 clear hb
 obtain ⟨c1, c2⟩ := HC.out _ O6.out
 go_wp2_with fail
 refine (K5.out _).mono ?_
 rintro e wa ⟨rfl, rfl⟩
 go_wp2_with fail
 refine (K6.out _).mono ?_
 rintro e wa ⟨rfl, rfl⟩
 go_wp2_with fail
 refine (K7.out _).mono ?_
 rintro e w7 ⟨rfl, hb⟩
 have O7 := Lib.hid (bstep O6.out hb)
 clear hb c1 c2
 obtain ⟨c1, c2⟩ := HC.out _ O7.out
 go_wp2_with fail
 refine (K8.out _).mono ?_
 rintro e wa ⟨rfl, rfl⟩
 go_wp2_with fail
 refine (K9.out _).mono ?_
 rintro e wa ⟨rfl, rfl⟩
 go_wp2_with fail
 refine (K10.out _).mono ?_
 rintro e wa ⟨rfl, rfl⟩
 go_wp2_with fail
 refine (K11.out _).mono ?_
 rintro e wa ⟨rfl, rfl⟩
 go_wp2_with fail
 refine (K12.out _).mono ?_
 rintro e wa ⟨rfl, rfl⟩
 go_wp2_with fail
 refine (K13.out _).mono ?_
 rintro e wa ⟨rfl, rfl⟩
 go_wp2_with fail
 go_ret
 exact ⟨by first | rfl | simp, bstep HB1.out O7.out⟩
set_option maxRecDepth 100000 in
set_option maxHeartbeats 8000000 in
theorem poolNone_good (kd l : Int) (s : ByteArray) (n : Int) (h1 : 1 ≤ n ∧ n ≤ 32) (w : World) :
  Calls Tryz.prog 11 #[.agg #[.int .i64 kd, .int .i64 l, .string s], .int .i64 n] w fun e w' => e = .returned (.bool true) ∧ Below w.heap.size w w' := by
 obtain ⟨qb, hqb⟩ : ∃ q, w.heap.size = q := ⟨_, rfl⟩
 have B1 := Blk.new w 80 #[.int .i64 kd, .int .i64 l, .string s]
 have b1 := Rt.belowAlloc (Below.refl w.heap.size w) (.cells #[.int .i64 kd, .int .i64 l, .string s] 80)
 obtain ⟨w1, hw1⟩ : ∃ w1, w.alloc (.cells #[.int .i64 kd, .int .i64 l, .string s] 80) = w1 := ⟨_, rfl⟩
 rw [hw1, hqb] at B1
 rw [hw1] at b1
 have HC := Lib.hid (fun (W : World) (hW : Below w1.heap.size w1 W) => (show W.cell? ⟨qb, 1, none⟩ = some (.int .i64 l) ∧ W.cell? ⟨qb, 2, none⟩ = some (.string s) from
  have B := B1.below hW B1.lt
  ⟨B.cell_some (i := 1) rfl, B.cell_some (i := 2) rfl⟩))
 have HB1 := Lib.hid b1
 clear B1 b1
 have KA := Lib.hid awake15
 have K1 := Lib.hid (fun W => phold_nil l W)
 have K2 := Lib.hid (fun W => pget_nil l W)
 have K3 := Lib.hid (fun W => pnew_nil s W)
 have KCN := Lib.hid pcount_nil
 have K4 := Lib.hid (fun W => poolnew_nil n W)
 have K5 := Lib.hid (fun W => plet_nil l W)
 have K6 := Lib.hid (fun W => pset_nil l s W)
 have K7 := Lib.hid (fun W => pput_nil l s W)
 have K8 := Lib.hid (fun W => pdrop_nil l W)
 have K9 := Lib.hid (fun W => pevict_nil l W)
 have K10 := Lib.hid pcommit_nil
 have K11 := Lib.hid pabort_nil
 have K12 := Lib.hid ppages_nil
 have K13 := Lib.hid pstore_nil
 have KN := Lib.hid (fun W => Dk.new_yes 30 W (by omega) (by omega))
 have KF := Lib.hid (fun (W : World) (L : Dk.Loc) (h : DiskAt W L 30 (D.zero 30)) => format_any h (by decide) rfl rfl (by decide))
 have OO := Lib.hid (Below.refl w1.heap.size w1)
 obtain ⟨E0, hE0⟩ : ∃ E, (⟨#[]⟩ : ByteArray) = E := ⟨_, rfl⟩
 have hcat : E0 ++ E0 = E0 := by rw [← hE0]; rfl
 have hsz : ¬ 9223372036854775807 < E0.size + E0.size := by rw [← hE0]; decide
 have htl : E0.toList = ByteArray.toList ⟨#[]⟩ := by rw [← hE0]
 rw [hE0] at K1 K2
 clear hE0
 unfold dp sp at *
 obtain ⟨k, rfl⟩ := Int.eq_ofNat_of_zero_le (show 0 ≤ n by omega)
 have KG := Lib.hid (fun (W : World) (b : Nat) => pnew_any (w := W) b k (by omega) (by omega))
 unfold sp at KG
 have h1' : 1 ≤ (k : Int) := by omega
 have h2' : (k : Int) ≤ 32 := by omega
 clear h1
 obtain ⟨c1, c2⟩ := HC.out _ OO.out
 go_enter Tryz.func11, Tryz.ntmps11
 go_wp2_with fail
 clear hw1 hqb
 refine (K1.out _).mono ?_
 rintro e wa ⟨rfl, rfl⟩
 go_wp2_with fail
 refine (K2.out _).mono ?_
 rintro e w2 ⟨rfl, hb⟩
 have O2 := Lib.hid (bstep OO.out hb)
 clear hb c1 c2
 obtain ⟨c1, c2⟩ := HC.out _ O2.out
 go_wp2_with fail
 refine (K3.out _).mono ?_
 rintro e wa ⟨rfl, rfl⟩
 go_wp2_with fail
 refine (KCN.out _).mono ?_
 rintro e wa ⟨rfl, rfl⟩
 go_wp2_with fail
 refine (K4.out _).mono ?_
 rintro e wa ⟨rfl, rfl⟩
 go_wp2_with fail
 refine (KN.out _).mono ?_
 rintro e w3 ⟨L, rfl, D3, hb, hL⟩
 have O3 := Lib.hid (bstep O2.out hb)
 have D3 := Lib.hid D3
 have HL := Lib.hid (show ∀ g ∈ L.fp, w1.heap.size ≤ g from fun g hg => Nat.le_trans O2.out.size (hL g hg))
 clear hb hL c1 c2
 go_wp2_with fail
 refine (KF.out _ _ D3.out).mono ?_
 rintro e w4 ⟨x, hxL, rfl, A4, o4, fx⟩
 have O4 := Lib.hid (O3.out.trans (o4.below_of O3.out.size HL.out))
 clear A4 o4 fx hxL
 go_wp2_with fail
 refine (KG.out _ x.b).mono ?_
 rintro e w5 ⟨pq, v, rfl, _, _, hb, _, _⟩
 have O5 := Lib.hid (bstep O4.out hb)
 clear hb
 go_wp2_with fail
 refine (KA.out _).mono ?_
 rintro e w6 ⟨rfl, hb⟩
 have O6 := Lib.hid (bstep O5.out hb)
 clear hb
 obtain ⟨c1, c2⟩ := HC.out _ O6.out
 go_wp2_with fail
 refine (K5.out _).mono ?_
 rintro e wa ⟨rfl, rfl⟩
 go_wp2_with fail
 refine (K6.out _).mono ?_
 rintro e wa ⟨rfl, rfl⟩
 go_wp2_with fail
 refine (K7.out _).mono ?_
 rintro e w7 ⟨rfl, hb⟩
 have O7 := Lib.hid (bstep O6.out hb)
 clear hb c1 c2
 obtain ⟨c1, c2⟩ := HC.out _ O7.out
 go_wp2_with fail
 refine (K8.out _).mono ?_
 rintro e wa ⟨rfl, rfl⟩
 go_wp2_with fail
 refine (K9.out _).mono ?_
 rintro e wa ⟨rfl, rfl⟩
 go_wp2_with fail
 refine (K10.out _).mono ?_
 rintro e wa ⟨rfl, rfl⟩
 go_wp2_with fail
 refine (K11.out _).mono ?_
 rintro e wa ⟨rfl, rfl⟩
 go_wp2_with fail
 refine (K12.out _).mono ?_
 rintro e wa ⟨rfl, rfl⟩
 go_wp2_with fail
 refine (K13.out _).mono ?_
 rintro e wa ⟨rfl, rfl⟩
 go_wp2_with fail
 go_ret
 exact ⟨by first | rfl | simp, bstep HB1.out O7.out⟩
theorem poolNone_any (kd l : Int) (s : ByteArray) (n : Int) (w : World) :
  Calls Tryz.prog 11 #[.agg #[.int .i64 kd, .int .i64 l, .string s], .int .i64 n] w fun e w' => e = .returned (.bool true) ∧ Below w.heap.size w w' := by
 by_cases h1 : n < 1
 ·exact poolNone_low kd l s n h1 w
 by_cases h2 : 32 < n
 ·exact poolNone_high kd l s n h2 w
 ·exact poolNone_good kd l s n ⟨by omega, by omega⟩ w
end Go.Proofs.YtbelcgjbhpjnpaaGreat.Sh
