/- shadow's laws: None. -/
import Derived.Test.YtbelcgjbhpjnpaaGreatW7
namespace Go.Proofs.YtbelcgjbhpjnpaaGreat.Sh
open Go.RowKit Pk Dk Pg
attribute [local go_sem ↓] Go.wp_at_zero Go.wp_at_succ
set_option maxRecDepth 100000 in
set_option maxHeartbeats 4000000 in
theorem shadowNone_any (kd l : Int) (s : ByteArray) (w : World) :
    Calls Tryz.prog 6 #[.agg #[.int .i64 kd, .int .i64 l, .string s]] w fun e w' => e = .returned (.bool true) ∧ Below w.heap.size w w' := by
  have B0 := Lib.hid (Blk.new w 31 #[.int .i64 kd, .int .i64 l, .string s])
  have O0 := Lib.hid (belowAlloc (Below.refl w.heap.size w) (.cells #[.int .i64 kd, .int .i64 l, .string s] 31))
  have KA := Lib.hid awake14
  have K1 := Lib.hid (fun W => snew_nil s W)
  have K2 := Lib.hid (fun W => sread_nil l W)
  have K3 := Lib.hid (fun W => swrite_nil l s W)
  have K4 := Lib.hid (fun W => sdrop_nil l W)
  go_enter Tryz.func6, Tryz.ntmps6
  have b1 := B0.out.cell_some (i := 1) rfl
  have b2 := B0.out.cell_some (i := 2) rfl
  go_wp2_with fail
  refine (K1.out _).mono ?_
  rintro e w1 ⟨rfl, rfl⟩
  go_wp2_with fail
  refine (K2.out _).mono ?_
  rintro e w1 ⟨rfl, rfl⟩
  go_wp2_with fail
  refine (scount_nil _).mono ?_
  rintro e w1 ⟨rfl, rfl⟩
  go_wp2_with fail
  refine (open_nil _).mono ?_
  rintro e w1 ⟨rfl, rfl⟩
  go_wp2_with fail
  refine (format_nil _).mono ?_
  rintro e w1 ⟨rfl, rfl⟩
  go_wp2_with fail
  refine (KA.out _).mono ?_
  rintro e w2 ⟨rfl, hb2⟩
  have H2 := Lib.hid (show Below w.heap.size w w2 from bstep O0.out hb2)
  have B2 := Lib.hid (B0.out.below hb2 B0.out.lt)
  have b1 := B2.out.cell_some (i := 1) rfl
  have b2 := B2.out.cell_some (i := 2) rfl
  clear hb2
  go_wp2_with fail
  refine (K3.out _).mono ?_
  rintro e w3 ⟨rfl, rfl⟩
  go_wp2_with fail
  refine (K4.out _).mono ?_
  rintro e w3 ⟨rfl, rfl⟩
  go_wp2_with fail
  refine (scommit_nil _).mono ?_
  rintro e w3 ⟨rfl, rfl⟩
  go_wp2_with fail
  refine (sabort_nil _).mono ?_
  rintro e w3 ⟨rfl, rfl⟩
  go_wp2_with fail
  refine (spages_nil _).mono ?_
  rintro e w3 ⟨rfl, rfl⟩
  go_wp2_with fail
  refine (sreach_nil _).mono ?_
  rintro e w3 ⟨rfl, rfl⟩
  go_wp2_with fail
  refine (sepoch_nil _).mono ?_
  rintro e w3 ⟨rfl, rfl⟩
  go_wp2_with fail
  go_ret
  exact ⟨by first | rfl | simp, H2.out⟩
end Go.Proofs.YtbelcgjbhpjnpaaGreat.Sh
