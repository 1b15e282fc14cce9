/- roots: numbers, and what a root is. -/
import Derived.Test.YtbelcgjbhpjnpaaGreatPa
import Derived.Deep.RegionHeld3
import Derived.Deep.DrawnRows
import Derived.Laws.ResultCell
import Derived.ChangeKeysEq
set_option linter.all false
set_option linter.unusedVariables false
set_option linter.unusedSimpArgs false
set_option maxRecDepth 100000
namespace Go.Proofs.YtbelcgjbhpjnpaaGreat.Rt
open Go.RowKit Pk
attribute [local go_sem ↓] Go.wp_at_zero Go.wp_at_succ
theorem asz (w : World) (o : Obj) : (w.alloc o).heap.size = w.heap.size + 1 := by simp
theorem belowAlloc {W w1 : World} (h : Below W.heap.size W w1) (o : Obj) : Below W.heap.size W (w1.alloc o) := h.alloc h.size o
theorem bool_of (p : Prop) : ∃ b : Bool, b = true ↔ p := by
 by_cases h : p
 ·exact ⟨true, by simp [h]⟩
 ·exact ⟨false, by simp [h]⟩
/-- a slice of numbers, whosever -/
def IntsAt (w : World) (A : Option Addr) (n : Nat) (l : List Int) : Prop := l.length = n ∧ ∀ k x, l[k]? = some x → ∃ ad, A = some ad ∧ w.cell? (ad.add k) = some (.int .i64 x)
theorem IntsAt.below {w w' : World} {A : Option Addr} {n : Nat} {l : List Int} (h : IntsAt w A n l) (hb : Below w.heap.size w w') : IntsAt w' A n l := by
 refine ⟨h.1, fun k x hx => ?_⟩
 obtain ⟨ad, e1, h1⟩ := h.2 k x hx
 exact ⟨ad, e1, (hb.cell (by rw [block_of_add]; exact cell_lt h1)).trans h1⟩
theorem IntsAt.at {w : World} {A : Option Addr} {n : Nat} {l : List Int} (h : IntsAt w A n l) (k : Nat) (hk : k < n) : ∃ ad x, A = some ad ∧ l[k]? = some x ∧ w.cell? (ad.add k) = some (.int .i64 x) := by
 have hl := h.1
 obtain ⟨ad, e1, h1⟩ := h.2 k l[k] (List.getElem?_eq_getElem (by omega))
 exact ⟨ad, l[k], e1, List.getElem?_eq_getElem (by omega), h1⟩
theorem IntsAt.take {w : World} {A : Option Addr} {n : Nat} {l : List Int} (h : IntsAt w A n l) (k : Nat) (hk : k ≤ n) : IntsAt w A k (l.take k) := by
 refine ⟨by rw [List.length_take]; have := h.1; omega, fun j x hx => ?_⟩
 rw [List.getElem?_take] at hx
 split at hx
 ·exact h.2 j x hx
 ·cases hx
def needF (n : Int) : Int := (max n 0 + 115) / 116
def rootV (a b : Int) (A : Option Addr) (n c : Nat) : Value := .agg #[.int .i64 a, .int .i64 b, .slice A n c]
/-- a root may be -/
def rightR (ep lg : Int) (l : List Int) : Prop := 1 ≤ ep ∧ ep ≤ 1099511627776 ∧ 0 ≤ lg ∧ lg ≤ 512 ∧ (l.length : Int) = needF lg ∧ ∀ i x, l[i]? = some x → 0 ≤ x ∧ x ≤ 1023 ∧ x ∉ l.take i
set_option maxRecDepth 100000 in
set_option maxHeartbeats 1000000 in
theorem need_any (n : Int) (h : n ≤ 1000000) (w : World) :
  Calls Tryz.prog 102 #[.int .i64 n] w fun e w' => e = .returned (.int .i64 (needF n)) ∧ Below w.heap.size w w' := by
 unfold needF
 obtain ⟨m, hm⟩ := Int.eq_ofNat_of_zero_le (show 0 ≤ max n 0 by omega)
 rw [hm]
 have hm2 : m ≤ 1000000 := by omega
 have e1 : IntKind.i64.wrap ((m : Int) + 116) = (m : Int) + 116 := IntWalk.i64_in _ (by omega)
 have e2 : IntKind.i64.wrap ((m : Int) + 116 - 1) = (m : Int) + 115 := by rw [show (m : Int) + 116 - 1 = (m : Int) + 115 by omega]; exact IntWalk.i64_in _ (by omega)
 have e3 : IntKind.i64.wrap (((m : Int) + 115).tdiv 116) = ((m : Int) + 115) / 116 := by rw [Int.tdiv_eq_ediv_of_nonneg (by omega)]; exact IntWalk.i64_in _ (by omega)
 have e4 : IntKind.i64.wrap ((m : Int) + 115) = (m : Int) + 115 := IntWalk.i64_in _ (by omega)
 go_enter Tryz.func102, Tryz.ntmps102
 go_wp2_with fail
 all_goals
  go_ret
  refine ⟨?_, Below.refl _ _⟩
  first | (simp; done) | (simp; omega)
set_option maxRecDepth 100000 in
set_option maxHeartbeats 2000000 in
theorem index_any {w : World} (A : Option Addr) (n c : Nat) (l : List Int) (x : Int) (h : IntsAt w A n l) (hn : n ≤ 1000000) :
  Calls Tryz.prog 87 #[.slice A n c, .int .i64 x] w fun e w' => (∃ k : Int, e = .returned (.int .i64 k) ∧ (0 ≤ k ↔ x ∈ l)) ∧ w' = w := by
 have H0 := Lib.hid h
 go_enter Tryz.func87, Tryz.ntmps87
 go_wp2_with fail
 go_loopw [8] (fun iv wr => ∃ i : Nat, i ≤ n ∧ iv = .int .i64 i ∧ Hid (∀ j y, j < i → l[j]? = some y → y ≠ x) ∧ wr = w) (fun iv _ => n - (intOf iv).toNat)
 case atStart => exact ⟨0, Nat.zero_le _, rfl, Lib.hid (fun j y h => absurd h (Nat.not_lt_zero _)), rfl⟩
 case round =>
  obtain ⟨i, hi, rfl, HX, rfl⟩ := hrel
  by_cases h' : i < n
  ·obtain ⟨ad, y, rfl, hy, ck⟩ := H0.out.at i h'
   have hiI : (i : Int) < (n : Int) := by omega
   have HY := Lib.hid hy
   clear hy h
   by_cases hxy : x = y
   ·subst hxy
    go_wp2_with fail
    go_ret
    refine ⟨⟨(i : Int), rfl, ?_⟩, rfl⟩
    exact ⟨fun _ => List.mem_of_getElem? HY.out, fun _ => by omega⟩
   ·have hxy2 : (x == y) = false := by simpa using hxy
    have HX2 := Lib.hid (show ∀ j z, j < i + 1 → l[j]? = some z → z ≠ x from fun j z hj hz => by
     rcases Nat.lt_succ_iff_lt_or_eq.1 hj with h1 | rfl
     ·exact HX.out j z h1 hz
     ·rw [HY.out] at hz; injection hz with hz; subst hz; exact fun e => hxy e.symm)
    go_wp2_with fail
    go_roundw
    case rel => exact ⟨i + 1, by omega, by go_num, HX2, by first | rfl | trivial⟩
    case measure => simp [intOf]; omega
  ·obtain rfl : i = n := by omega
   clear h
   go_wp2_with fail
   go_ret
   refine ⟨⟨-1, rfl, ?_⟩, rfl⟩
   constructor
   ·intro h1; omega
   ·intro hm
    exfalso
    obtain ⟨j, hj, hjx⟩ := List.getElem_of_mem hm
    exact HX.out j _ (by have := H0.out.1; omega) (List.getElem?_eq_getElem hj) hjx
set_option maxHeartbeats 1000000 in
theorem contains_any {w : World} (A : Option Addr) (n c : Nat) (l : List Int) (x : Int) (h : IntsAt w A n l) (hn : n ≤ 1000000) (b : Bool) (hb : b = true ↔ x ∈ l) :
  Calls Tryz.prog 197 #[.slice A n c, .int .i64 x] w fun e w' => e = .returned (.bool b) ∧ w' = w := by
 have K := Lib.hid (index_any A n c l x h hn)
 have HB := Lib.hid hb
 clear h hb
 go_enter Tryz.func197, Tryz.ntmps197
 go_wp2_with fail
 refine K.out.mono ?_
 rintro e w1 ⟨⟨k, rfl, hk⟩, rfl⟩
 have HK := Lib.hid hk
 clear hk
 by_cases h0 : 0 ≤ k
 ·have h1 : ¬ k < 0 := by omega
  go_wp2_with fail
  go_ret
  refine ⟨?_, rfl⟩
  rw [HB.out.2 (HK.out.1 h0)]; first | rfl | simp
 ·have h1 : k < 0 := by omega
  go_wp2_with fail
  go_ret
  refine ⟨?_, rfl⟩
  cases b
  ·first | rfl | (simp; omega)
  ·exact absurd (HK.out.2 (HB.out.1 rfl)) (by omega)
end Go.Proofs.YtbelcgjbhpjnpaaGreat.Rt

/- roots: which may be. -/
namespace Go.Proofs.YtbelcgjbhpjnpaaGreat.Rt
open Go.RowKit Pk
attribute [local go_sem ↓] Go.wp_at_zero Go.wp_at_succ
theorem rightR_len {ep lg : Int} {l : List Int} (h : rightR ep lg l) : l.length ≤ 5 := by
 have := h.2.2.2.2.1
 unfold needF at this
 have := h.2.2.2.1
 omega
set_option maxRecDepth 100000 in
set_option maxHeartbeats 4000000 in
theorem right_any {w : World} (ep lg : Int) (A : Option Addr) (n c : Nat) (l : List Int) (h : IntsAt w A n l) (hn : n ≤ 1000000) (hnc : n ≤ c) (b : Bool) (hb : b = true ↔ rightR ep lg l) :
  Calls Tryz.prog 157 #[rootV ep lg A n c] w fun e w' => e = .returned (.bool b) ∧ Below w.heap.size w w' := by
 have O0 := belowAlloc (Below.refl w.heap.size w) (.cells #[.int .i64 ep, .int .i64 lg, .slice A n c] 125)
 have B0 := Lib.hid (Blk.new w 125 #[.int .i64 ep, .int .i64 lg, .slice A n c])
 have H0 := Lib.hid (h.below O0)
 have HB := Lib.hid hb
 have HL := Lib.hid h.1
 have O0 := Lib.hid O0
 clear h hb
 unfold rootV
 have hcase : (ep < 1) ∨ (¬ ep < 1 ∧ 1099511627776 < ep) ∨ (¬ ep < 1 ∧ ¬ 1099511627776 < ep ∧ lg < 0) ∨ (¬ ep < 1 ∧ ¬ 1099511627776 < ep ∧ ¬ lg < 0 ∧ 512 < lg) ∨ (¬ ep < 1 ∧ ¬ 1099511627776 < ep ∧ ¬ lg < 0 ∧ ¬ 512 < lg ∧ (n : Int) ≠ needF lg) ∨ (¬ ep < 1 ∧ ¬ 1099511627776 < ep ∧ ¬ lg < 0 ∧ ¬ 512 < lg ∧ (n : Int) = needF lg) := by omega
 have KN := Lib.hid (fun (hl : lg ≤ 512) w => need_any lg (by omega) w)
 rcases hcase with h1 | ⟨h1, h2⟩ | ⟨h1, h2, h3⟩ | ⟨h1, h2, h3, h4⟩ | ⟨h1, h2, h3, h4, h5⟩ | ⟨h1, h2, h3, h4, h5⟩
 ·go_enter Tryz.func157, Tryz.ntmps157
  go_wp2_with fail
  generalize hW : (w.alloc (.cells #[.int .i64 ep, .int .i64 lg, .slice A n c] 125)) = W at *
  clear hW
  have HK := Lib.hid (show ∀ W', Below W.heap.size W W' → (W'.cell? ⟨w.heap.size, 0, none⟩ = some (.int .i64 ep) ∧ W'.cell? ⟨w.heap.size, 1, none⟩ = some (.int .i64 lg) ∧ W'.cell? ⟨w.heap.size, 2, none⟩ = some (.slice A n c)) from fun W' ho => ⟨(B0.out.below ho B0.out.lt).cell_some (i := 0) rfl, (B0.out.below ho B0.out.lt).cell_some (i := 1) rfl, (B0.out.below ho B0.out.lt).cell_some (i := 2) rfl⟩)
  have OD := Lib.hid ((Below.refl W.heap.size W).drew)
  refine wp_region_held_drew (S := fun W' => W'.cell? ⟨w.heap.size, 0, none⟩ = some (.int .i64 ep) ∧ W'.cell? ⟨w.heap.size, 1, none⟩ = some (.int .i64 lg) ∧ W'.cell? ⟨w.heap.size, 2, none⟩ = some (.slice A n c)) (by kernel_rfl) (HK.out _ OD.out) (fun hHeld => ?_)
  refine zpl [(0,5),(1,6)] ?_
  iterate 2 (refine ztp (v := ?_) rfl (by kernel_rfl) (fun _ _ _ h => h) (by assumption) ?_ ?_; rotate_left; (·intro w hS; (try dsimp only at hS); go_simp; try with_reducible rfl); try simp only [Act.put, pa, pb, pc])
  refine zpe ?_
  refine wpAnyH_take (i := 2) (oi := ⟨some 7, _, _, _, _, _⟩) (v := .bool true) rfl (by kernel_rfl) (by kernel_rfl) (by kernel_rfl) (fun _ _ _ h => h) (Or.inl ⟨by kernel_rfl, ?_⟩) (by assumption) ?_
  ·(intro w hSw; (try dsimp only at hSw); go_simp; (try omega))
  try simp only [Act.put, pa, pb, pc]
  refine zpl [(3,8)] ?_
  iterate 1 (refine ztp (v := ?_) rfl (by kernel_rfl) (fun _ _ _ h => h) (by assumption) ?_ ?_; rotate_left; (·intro w hS; (try dsimp only at hS); go_simp; try with_reducible rfl); try simp only [Act.put, pa, pb, pc])
  refine zpe ?_
  refine tks (i := 4) (oi := ⟨some 9, _, _, _, _, _⟩) rfl (by kernel_rfl) (fun _ _ _ h => h) (by assumption) ?_
  try simp only [Act.put, pa, pb, pc]
  refine tks (i := 5) (oi := ⟨some 10, _, _, _, _, _⟩) rfl (by kernel_rfl) (fun _ _ _ h => h) (by assumption) ?_
  try simp only [Act.put, pa, pb, pc]
  refine tks (i := 6) (oi := ⟨some 11, _, _, _, _, _⟩) rfl (by kernel_rfl) (fun _ _ _ h => h) (by assumption) ?_
  try simp only [Act.put, pa, pb, pc]
  refine zpl [(7,12),(8,13)] ?_
  iterate 2 (refine ztp (v := ?_) rfl (by kernel_rfl) (fun _ _ _ h => h) (by assumption) ?_ ?_; rotate_left; (·intro w hS; (try dsimp only at hS); go_simp; try with_reducible rfl); try simp only [Act.put, pa, pb, pc])
  refine zpe ?_
  refine tks (i := 9) (oi := ⟨some 14, _, _, _, _, _⟩) rfl (by kernel_rfl) (fun _ _ _ h => h) (by assumption) ?_
  try simp only [Act.put, pa, pb, pc]
  refine tks (i := 10) (oi := ⟨some 15, _, _, _, _, _⟩) rfl (by kernel_rfl) (fun _ _ _ h => h) (by assumption) ?_
  try simp only [Act.put, pa, pb, pc]
  refine tks (i := 11) (oi := ⟨some 16, _, _, _, _, _⟩) rfl (by kernel_rfl) (fun _ _ _ h => h) (by assumption) ?_
  try simp only [Act.put, pa, pb, pc]
  refine zpl [(12,17),(13,18)] ?_
  iterate 2 (refine ztp (v := ?_) rfl (by kernel_rfl) (fun _ _ _ h => h) (by assumption) ?_ ?_; rotate_left; (·intro w hS; (try dsimp only at hS); go_simp; try with_reducible rfl); try simp only [Act.put, pa, pb, pc])
  refine zpe ?_
  refine tks (i := 14) (oi := ⟨some 19, _, _, _, _, _⟩) rfl (by kernel_rfl) (fun _ _ _ h => h) (by assumption) ?_
  try simp only [Act.put, pa, pb, pc]
  refine tks (i := 15) (oi := ⟨some 20, _, _, _, _, _⟩) rfl (by kernel_rfl) (fun _ _ _ h => h) (by assumption) ?_
  try simp only [Act.put, pa, pb, pc]
  refine tks (i := 16) (oi := ⟨some 21, _, _, _, _, _⟩) rfl (by kernel_rfl) (fun _ _ _ h => h) (by assumption) ?_
  try simp only [Act.put, pa, pb, pc]
  refine zpl [(17,22),(18,23)] ?_
  iterate 2 (refine ztp (v := ?_) rfl (by kernel_rfl) (fun _ _ _ h => h) (by assumption) ?_ ?_; rotate_left; (·intro w hS; (try dsimp only at hS); go_simp; try with_reducible rfl); try simp only [Act.put, pa, pb, pc])
  refine zpe ?_
  refine tks (i := 19) (oi := ⟨some 24, _, _, _, _, _⟩) rfl (by kernel_rfl) (fun _ _ _ h => h) (by assumption) ?_
  try simp only [Act.put, pa, pb, pc]
  refine tks (i := 20) (oi := ⟨some 25, _, _, _, _, _⟩) rfl (by kernel_rfl) (fun _ _ _ h => h) (by assumption) ?_
  try simp only [Act.put, pa, pb, pc]
  refine tks (i := 21) (oi := ⟨some 26, _, _, _, _, _⟩) rfl (by kernel_rfl) (fun _ _ _ h => h) (by assumption) ?_
  try simp only [Act.put, pa, pb, pc]
  refine tks (i := 22) (oi := ⟨some 27, _, _, _, _, _⟩) rfl (by kernel_rfl) (fun _ _ _ h => h) (by assumption) ?_
  try simp only [Act.put, pa, pb, pc]
  refine tks (i := 23) (oi := ⟨some 28, _, _, _, _, _⟩) rfl (by kernel_rfl) (fun _ _ _ h => h) (by assumption) ?_
  try simp only [Act.put, pa, pb, pc]
  refine tks (i := 24) (oi := ⟨some 29, _, _, _, _, _⟩) rfl (by kernel_rfl) (fun _ _ _ h => h) (by assumption) ?_
  try simp only [Act.put, pa, pb, pc]
  refine tks (i := 25) (oi := ⟨some 30, _, _, _, _, _⟩) rfl (by kernel_rfl) (fun _ _ _ h => h) (by assumption) ?_
  try simp only [Act.put, pa, pb, pc]
  refine zpl [(26,31)] ?_
  iterate 1 (refine ztp (v := ?_) rfl (by kernel_rfl) (fun _ _ _ h => h) (by assumption) ?_ ?_; rotate_left; (·intro w hS; (try dsimp only at hS); go_simp; try with_reducible rfl); try simp only [Act.put, pa, pb, pc])
  refine zpe ?_
  refine wpAnyH_done (by kernel_rfl) ?_ _
  have PP := Lib.hid (bstep O0.out OD.out)
  go_wp2_with fail
  go_ret
  refine ⟨?_, PP.out⟩
  cases b
  ·first | rfl | simp
  ·exfalso
   have hr := HB.out.1 rfl
   have hl := HL.out
   unfold rightR at hr
   omega
 ·go_enter Tryz.func157, Tryz.ntmps157
  go_wp2_with fail
  generalize hW : (w.alloc (.cells #[.int .i64 ep, .int .i64 lg, .slice A n c] 125)) = W at *
  clear hW
  have HK := Lib.hid (show ∀ W', Below W.heap.size W W' → (W'.cell? ⟨w.heap.size, 0, none⟩ = some (.int .i64 ep) ∧ W'.cell? ⟨w.heap.size, 1, none⟩ = some (.int .i64 lg) ∧ W'.cell? ⟨w.heap.size, 2, none⟩ = some (.slice A n c)) from fun W' ho => ⟨(B0.out.below ho B0.out.lt).cell_some (i := 0) rfl, (B0.out.below ho B0.out.lt).cell_some (i := 1) rfl, (B0.out.below ho B0.out.lt).cell_some (i := 2) rfl⟩)
  have OD := Lib.hid ((Below.refl W.heap.size W).drew)
  refine wp_region_held_drew (S := fun W' => W'.cell? ⟨w.heap.size, 0, none⟩ = some (.int .i64 ep) ∧ W'.cell? ⟨w.heap.size, 1, none⟩ = some (.int .i64 lg) ∧ W'.cell? ⟨w.heap.size, 2, none⟩ = some (.slice A n c)) (by kernel_rfl) (HK.out _ OD.out) (fun hHeld => ?_)
  refine zpl [(0,5),(1,6)] ?_
  iterate 2 (refine ztp (v := ?_) rfl (by kernel_rfl) (fun _ _ _ h => h) (by assumption) ?_ ?_; rotate_left; (·intro w hS; (try dsimp only at hS); go_simp; try with_reducible rfl); try simp only [Act.put, pa, pb, pc])
  refine zpe ?_
  refine wpAnyH_take (i := 2) (oi := ⟨some 7, _, _, _, _, _⟩) (v := .bool false) rfl (by kernel_rfl) (by kernel_rfl) (by kernel_rfl) (fun _ _ _ h => h) (Or.inl ⟨by kernel_rfl, ?_⟩) (by assumption) ?_
  ·(intro w hSw; (try dsimp only at hSw); go_simp; (try omega))
  try simp only [Act.put, pa, pb, pc]
  refine zpl [(3,8),(4,9),(5,10)] ?_
  iterate 3 (refine ztp (v := ?_) rfl (by kernel_rfl) (fun _ _ _ h => h) (by assumption) ?_ ?_; rotate_left; (·intro w hS; (try dsimp only at hS); go_simp; try with_reducible rfl); try simp only [Act.put, pa, pb, pc])
  refine zpe ?_
  refine wpAnyH_take (i := 6) (oi := ⟨some 11, _, _, _, _, _⟩) (v := .bool true) rfl (by kernel_rfl) (by kernel_rfl) (by kernel_rfl) (fun _ _ _ h => h) (Or.inl ⟨by kernel_rfl, ?_⟩) (by assumption) ?_
  ·(intro w hSw; (try dsimp only at hSw); go_simp; (try omega))
  try simp only [Act.put, pa, pb, pc]
  refine zpl [(7,12),(8,13)] ?_
  iterate 2 (refine ztp (v := ?_) rfl (by kernel_rfl) (fun _ _ _ h => h) (by assumption) ?_ ?_; rotate_left; (·intro w hS; (try dsimp only at hS); go_simp; try with_reducible rfl); try simp only [Act.put, pa, pb, pc])
  refine zpe ?_
  refine tks (i := 9) (oi := ⟨some 14, _, _, _, _, _⟩) rfl (by kernel_rfl) (fun _ _ _ h => h) (by assumption) ?_
  try simp only [Act.put, pa, pb, pc]
  refine tks (i := 10) (oi := ⟨some 15, _, _, _, _, _⟩) rfl (by kernel_rfl) (fun _ _ _ h => h) (by assumption) ?_
  try simp only [Act.put, pa, pb, pc]
  refine tks (i := 11) (oi := ⟨some 16, _, _, _, _, _⟩) rfl (by kernel_rfl) (fun _ _ _ h => h) (by assumption) ?_
  try simp only [Act.put, pa, pb, pc]
  refine zpl [(12,17),(13,18)] ?_
  iterate 2 (refine ztp (v := ?_) rfl (by kernel_rfl) (fun _ _ _ h => h) (by assumption) ?_ ?_; rotate_left; (·intro w hS; (try dsimp only at hS); go_simp; try with_reducible rfl); try simp only [Act.put, pa, pb, pc])
  refine zpe ?_
  refine tks (i := 14) (oi := ⟨some 19, _, _, _, _, _⟩) rfl (by kernel_rfl) (fun _ _ _ h => h) (by assumption) ?_
  try simp only [Act.put, pa, pb, pc]
  refine tks (i := 15) (oi := ⟨some 20, _, _, _, _, _⟩) rfl (by kernel_rfl) (fun _ _ _ h => h) (by assumption) ?_
  try simp only [Act.put, pa, pb, pc]
  refine tks (i := 16) (oi := ⟨some 21, _, _, _, _, _⟩) rfl (by kernel_rfl) (fun _ _ _ h => h) (by assumption) ?_
  try simp only [Act.put, pa, pb, pc]
  refine zpl [(17,22),(18,23)] ?_
  iterate 2 (refine ztp (v := ?_) rfl (by kernel_rfl) (fun _ _ _ h => h) (by assumption) ?_ ?_; rotate_left; (·intro w hS; (try dsimp only at hS); go_simp; try with_reducible rfl); try simp only [Act.put, pa, pb, pc])
  refine zpe ?_
  refine tks (i := 19) (oi := ⟨some 24, _, _, _, _, _⟩) rfl (by kernel_rfl) (fun _ _ _ h => h) (by assumption) ?_
  try simp only [Act.put, pa, pb, pc]
  refine tks (i := 20) (oi := ⟨some 25, _, _, _, _, _⟩) rfl (by kernel_rfl) (fun _ _ _ h => h) (by assumption) ?_
  try simp only [Act.put, pa, pb, pc]
  refine tks (i := 21) (oi := ⟨some 26, _, _, _, _, _⟩) rfl (by kernel_rfl) (fun _ _ _ h => h) (by assumption) ?_
  try simp only [Act.put, pa, pb, pc]
  refine tks (i := 22) (oi := ⟨some 27, _, _, _, _, _⟩) rfl (by kernel_rfl) (fun _ _ _ h => h) (by assumption) ?_
  try simp only [Act.put, pa, pb, pc]
  refine tks (i := 23) (oi := ⟨some 28, _, _, _, _, _⟩) rfl (by kernel_rfl) (fun _ _ _ h => h) (by assumption) ?_
  try simp only [Act.put, pa, pb, pc]
  refine tks (i := 24) (oi := ⟨some 29, _, _, _, _, _⟩) rfl (by kernel_rfl) (fun _ _ _ h => h) (by assumption) ?_
  try simp only [Act.put, pa, pb, pc]
  refine tks (i := 25) (oi := ⟨some 30, _, _, _, _, _⟩) rfl (by kernel_rfl) (fun _ _ _ h => h) (by assumption) ?_
  try simp only [Act.put, pa, pb, pc]
  refine zpl [(26,31)] ?_
  iterate 1 (refine ztp (v := ?_) rfl (by kernel_rfl) (fun _ _ _ h => h) (by assumption) ?_ ?_; rotate_left; (·intro w hS; (try dsimp only at hS); go_simp; try with_reducible rfl); try simp only [Act.put, pa, pb, pc])
  refine zpe ?_
  refine wpAnyH_done (by kernel_rfl) ?_ _
  have PP := Lib.hid (bstep O0.out OD.out)
  go_wp2_with fail
  go_ret
  refine ⟨?_, PP.out⟩
  cases b
  ·first | rfl | simp
  ·exfalso
   have hr := HB.out.1 rfl
   have hl := HL.out
   unfold rightR at hr
   omega
 ·go_enter Tryz.func157, Tryz.ntmps157
  go_wp2_with fail
  generalize hW : (w.alloc (.cells #[.int .i64 ep, .int .i64 lg, .slice A n c] 125)) = W at *
  clear hW
  have HK := Lib.hid (show ∀ W', Below W.heap.size W W' → (W'.cell? ⟨w.heap.size, 0, none⟩ = some (.int .i64 ep) ∧ W'.cell? ⟨w.heap.size, 1, none⟩ = some (.int .i64 lg) ∧ W'.cell? ⟨w.heap.size, 2, none⟩ = some (.slice A n c)) from fun W' ho => ⟨(B0.out.below ho B0.out.lt).cell_some (i := 0) rfl, (B0.out.below ho B0.out.lt).cell_some (i := 1) rfl, (B0.out.below ho B0.out.lt).cell_some (i := 2) rfl⟩)
  have OD := Lib.hid ((Below.refl W.heap.size W).drew)
  refine wp_region_held_drew (S := fun W' => W'.cell? ⟨w.heap.size, 0, none⟩ = some (.int .i64 ep) ∧ W'.cell? ⟨w.heap.size, 1, none⟩ = some (.int .i64 lg) ∧ W'.cell? ⟨w.heap.size, 2, none⟩ = some (.slice A n c)) (by kernel_rfl) (HK.out _ OD.out) (fun hHeld => ?_)
  refine zpl [(0,5),(1,6)] ?_
  iterate 2 (refine ztp (v := ?_) rfl (by kernel_rfl) (fun _ _ _ h => h) (by assumption) ?_ ?_; rotate_left; (·intro w hS; (try dsimp only at hS); go_simp; try with_reducible rfl); try simp only [Act.put, pa, pb, pc])
  refine zpe ?_
  refine wpAnyH_take (i := 2) (oi := ⟨some 7, _, _, _, _, _⟩) (v := .bool false) rfl (by kernel_rfl) (by kernel_rfl) (by kernel_rfl) (fun _ _ _ h => h) (Or.inl ⟨by kernel_rfl, ?_⟩) (by assumption) ?_
  ·(intro w hSw; (try dsimp only at hSw); go_simp; (try omega))
  try simp only [Act.put, pa, pb, pc]
  refine zpl [(3,8),(4,9),(5,10)] ?_
  iterate 3 (refine ztp (v := ?_) rfl (by kernel_rfl) (fun _ _ _ h => h) (by assumption) ?_ ?_; rotate_left; (·intro w hS; (try dsimp only at hS); go_simp; try with_reducible rfl); try simp only [Act.put, pa, pb, pc])
  refine zpe ?_
  refine wpAnyH_take (i := 6) (oi := ⟨some 11, _, _, _, _, _⟩) (v := .bool false) rfl (by kernel_rfl) (by kernel_rfl) (by kernel_rfl) (fun _ _ _ h => h) (Or.inl ⟨by kernel_rfl, ?_⟩) (by assumption) ?_
  ·(intro w hSw; (try dsimp only at hSw); go_simp; (try omega))
  try simp only [Act.put, pa, pb, pc]
  refine zpl [(7,12),(8,13),(9,14),(10,15)] ?_
  iterate 4 (refine ztp (v := ?_) rfl (by kernel_rfl) (fun _ _ _ h => h) (by assumption) ?_ ?_; rotate_left; (·intro w hS; (try dsimp only at hS); go_simp; try with_reducible rfl); try simp only [Act.put, pa, pb, pc])
  refine zpe ?_
  refine wpAnyH_take (i := 11) (oi := ⟨some 16, _, _, _, _, _⟩) (v := .bool true) rfl (by kernel_rfl) (by kernel_rfl) (by kernel_rfl) (fun _ _ _ h => h) (Or.inl ⟨by kernel_rfl, ?_⟩) (by assumption) ?_
  ·(intro w hSw; (try dsimp only at hSw); go_simp; (try omega))
  try simp only [Act.put, pa, pb, pc]
  refine zpl [(12,17),(13,18)] ?_
  iterate 2 (refine ztp (v := ?_) rfl (by kernel_rfl) (fun _ _ _ h => h) (by assumption) ?_ ?_; rotate_left; (·intro w hS; (try dsimp only at hS); go_simp; try with_reducible rfl); try simp only [Act.put, pa, pb, pc])
  refine zpe ?_
  refine tks (i := 14) (oi := ⟨some 19, _, _, _, _, _⟩) rfl (by kernel_rfl) (fun _ _ _ h => h) (by assumption) ?_
  try simp only [Act.put, pa, pb, pc]
  refine tks (i := 15) (oi := ⟨some 20, _, _, _, _, _⟩) rfl (by kernel_rfl) (fun _ _ _ h => h) (by assumption) ?_
  try simp only [Act.put, pa, pb, pc]
  refine tks (i := 16) (oi := ⟨some 21, _, _, _, _, _⟩) rfl (by kernel_rfl) (fun _ _ _ h => h) (by assumption) ?_
  try simp only [Act.put, pa, pb, pc]
  refine zpl [(17,22),(18,23)] ?_
  iterate 2 (refine ztp (v := ?_) rfl (by kernel_rfl) (fun _ _ _ h => h) (by assumption) ?_ ?_; rotate_left; (·intro w hS; (try dsimp only at hS); go_simp; try with_reducible rfl); try simp only [Act.put, pa, pb, pc])
  refine zpe ?_
  refine tks (i := 19) (oi := ⟨some 24, _, _, _, _, _⟩) rfl (by kernel_rfl) (fun _ _ _ h => h) (by assumption) ?_
  try simp only [Act.put, pa, pb, pc]
  refine tks (i := 20) (oi := ⟨some 25, _, _, _, _, _⟩) rfl (by kernel_rfl) (fun _ _ _ h => h) (by assumption) ?_
  try simp only [Act.put, pa, pb, pc]
  refine tks (i := 21) (oi := ⟨some 26, _, _, _, _, _⟩) rfl (by kernel_rfl) (fun _ _ _ h => h) (by assumption) ?_
  try simp only [Act.put, pa, pb, pc]
  refine tks (i := 22) (oi := ⟨some 27, _, _, _, _, _⟩) rfl (by kernel_rfl) (fun _ _ _ h => h) (by assumption) ?_
  try simp only [Act.put, pa, pb, pc]
  refine tks (i := 23) (oi := ⟨some 28, _, _, _, _, _⟩) rfl (by kernel_rfl) (fun _ _ _ h => h) (by assumption) ?_
  try simp only [Act.put, pa, pb, pc]
  refine tks (i := 24) (oi := ⟨some 29, _, _, _, _, _⟩) rfl (by kernel_rfl) (fun _ _ _ h => h) (by assumption) ?_
  try simp only [Act.put, pa, pb, pc]
  refine tks (i := 25) (oi := ⟨some 30, _, _, _, _, _⟩) rfl (by kernel_rfl) (fun _ _ _ h => h) (by assumption) ?_
  try simp only [Act.put, pa, pb, pc]
  refine zpl [(26,31)] ?_
  iterate 1 (refine ztp (v := ?_) rfl (by kernel_rfl) (fun _ _ _ h => h) (by assumption) ?_ ?_; rotate_left; (·intro w hS; (try dsimp only at hS); go_simp; try with_reducible rfl); try simp only [Act.put, pa, pb, pc])
  refine zpe ?_
  refine wpAnyH_done (by kernel_rfl) ?_ _
  have PP := Lib.hid (bstep O0.out OD.out)
  go_wp2_with fail
  go_ret
  refine ⟨?_, PP.out⟩
  cases b
  ·first | rfl | simp
  ·exfalso
   have hr := HB.out.1 rfl
   have hl := HL.out
   unfold rightR at hr
   omega
 ·go_enter Tryz.func157, Tryz.ntmps157
  go_wp2_with fail
  generalize hW : (w.alloc (.cells #[.int .i64 ep, .int .i64 lg, .slice A n c] 125)) = W at *
  clear hW
  have HK := Lib.hid (show ∀ W', Below W.heap.size W W' → (W'.cell? ⟨w.heap.size, 0, none⟩ = some (.int .i64 ep) ∧ W'.cell? ⟨w.heap.size, 1, none⟩ = some (.int .i64 lg) ∧ W'.cell? ⟨w.heap.size, 2, none⟩ = some (.slice A n c)) from fun W' ho => ⟨(B0.out.below ho B0.out.lt).cell_some (i := 0) rfl, (B0.out.below ho B0.out.lt).cell_some (i := 1) rfl, (B0.out.below ho B0.out.lt).cell_some (i := 2) rfl⟩)
  have OD := Lib.hid ((Below.refl W.heap.size W).drew)
  refine wp_region_held_drew (S := fun W' => W'.cell? ⟨w.heap.size, 0, none⟩ = some (.int .i64 ep) ∧ W'.cell? ⟨w.heap.size, 1, none⟩ = some (.int .i64 lg) ∧ W'.cell? ⟨w.heap.size, 2, none⟩ = some (.slice A n c)) (by kernel_rfl) (HK.out _ OD.out) (fun hHeld => ?_)
  refine zpl [(0,5),(1,6)] ?_
  iterate 2 (refine ztp (v := ?_) rfl (by kernel_rfl) (fun _ _ _ h => h) (by assumption) ?_ ?_; rotate_left; (·intro w hS; (try dsimp only at hS); go_simp; try with_reducible rfl); try simp only [Act.put, pa, pb, pc])
  refine zpe ?_
  refine wpAnyH_take (i := 2) (oi := ⟨some 7, _, _, _, _, _⟩) (v := .bool false) rfl (by kernel_rfl) (by kernel_rfl) (by kernel_rfl) (fun _ _ _ h => h) (Or.inl ⟨by kernel_rfl, ?_⟩) (by assumption) ?_
  ·(intro w hSw; (try dsimp only at hSw); go_simp; (try omega))
  try simp only [Act.put, pa, pb, pc]
  refine zpl [(3,8),(4,9),(5,10)] ?_
  iterate 3 (refine ztp (v := ?_) rfl (by kernel_rfl) (fun _ _ _ h => h) (by assumption) ?_ ?_; rotate_left; (·intro w hS; (try dsimp only at hS); go_simp; try with_reducible rfl); try simp only [Act.put, pa, pb, pc])
  refine zpe ?_
  refine wpAnyH_take (i := 6) (oi := ⟨some 11, _, _, _, _, _⟩) (v := .bool false) rfl (by kernel_rfl) (by kernel_rfl) (by kernel_rfl) (fun _ _ _ h => h) (Or.inl ⟨by kernel_rfl, ?_⟩) (by assumption) ?_
  ·(intro w hSw; (try dsimp only at hSw); go_simp; (try omega))
  try simp only [Act.put, pa, pb, pc]
  refine zpl [(7,12),(8,13),(9,14),(10,15)] ?_
  iterate 4 (refine ztp (v := ?_) rfl (by kernel_rfl) (fun _ _ _ h => h) (by assumption) ?_ ?_; rotate_left; (·intro w hS; (try dsimp only at hS); go_simp; try with_reducible rfl); try simp only [Act.put, pa, pb, pc])
  refine zpe ?_
  refine wpAnyH_take (i := 11) (oi := ⟨some 16, _, _, _, _, _⟩) (v := .bool false) rfl (by kernel_rfl) (by kernel_rfl) (by kernel_rfl) (fun _ _ _ h => h) (Or.inl ⟨by kernel_rfl, ?_⟩) (by assumption) ?_
  ·(intro w hSw; (try dsimp only at hSw); go_simp; (try omega))
  try simp only [Act.put, pa, pb, pc]
  refine zpl [(12,17),(13,18),(14,19),(15,20)] ?_
  iterate 4 (refine ztp (v := ?_) rfl (by kernel_rfl) (fun _ _ _ h => h) (by assumption) ?_ ?_; rotate_left; (·intro w hS; (try dsimp only at hS); go_simp; try with_reducible rfl); try simp only [Act.put, pa, pb, pc])
  refine zpe ?_
  refine wpAnyH_take (i := 16) (oi := ⟨some 21, _, _, _, _, _⟩) (v := .bool true) rfl (by kernel_rfl) (by kernel_rfl) (by kernel_rfl) (fun _ _ _ h => h) (Or.inl ⟨by kernel_rfl, ?_⟩) (by assumption) ?_
  ·(intro w hSw; (try dsimp only at hSw); go_simp; (try omega))
  try simp only [Act.put, pa, pb, pc]
  refine zpl [(17,22),(18,23)] ?_
  iterate 2 (refine ztp (v := ?_) rfl (by kernel_rfl) (fun _ _ _ h => h) (by assumption) ?_ ?_; rotate_left; (·intro w hS; (try dsimp only at hS); go_simp; try with_reducible rfl); try simp only [Act.put, pa, pb, pc])
  refine zpe ?_
  refine tks (i := 19) (oi := ⟨some 24, _, _, _, _, _⟩) rfl (by kernel_rfl) (fun _ _ _ h => h) (by assumption) ?_
  try simp only [Act.put, pa, pb, pc]
  refine tks (i := 20) (oi := ⟨some 25, _, _, _, _, _⟩) rfl (by kernel_rfl) (fun _ _ _ h => h) (by assumption) ?_
  try simp only [Act.put, pa, pb, pc]
  refine tks (i := 21) (oi := ⟨some 26, _, _, _, _, _⟩) rfl (by kernel_rfl) (fun _ _ _ h => h) (by assumption) ?_
  try simp only [Act.put, pa, pb, pc]
  refine tks (i := 22) (oi := ⟨some 27, _, _, _, _, _⟩) rfl (by kernel_rfl) (fun _ _ _ h => h) (by assumption) ?_
  try simp only [Act.put, pa, pb, pc]
  refine tks (i := 23) (oi := ⟨some 28, _, _, _, _, _⟩) rfl (by kernel_rfl) (fun _ _ _ h => h) (by assumption) ?_
  try simp only [Act.put, pa, pb, pc]
  refine tks (i := 24) (oi := ⟨some 29, _, _, _, _, _⟩) rfl (by kernel_rfl) (fun _ _ _ h => h) (by assumption) ?_
  try simp only [Act.put, pa, pb, pc]
  refine tks (i := 25) (oi := ⟨some 30, _, _, _, _, _⟩) rfl (by kernel_rfl) (fun _ _ _ h => h) (by assumption) ?_
  try simp only [Act.put, pa, pb, pc]
  refine zpl [(26,31)] ?_
  iterate 1 (refine ztp (v := ?_) rfl (by kernel_rfl) (fun _ _ _ h => h) (by assumption) ?_ ?_; rotate_left; (·intro w hS; (try dsimp only at hS); go_simp; try with_reducible rfl); try simp only [Act.put, pa, pb, pc])
  refine zpe ?_
  refine wpAnyH_done (by kernel_rfl) ?_ _
  have PP := Lib.hid (bstep O0.out OD.out)
  go_wp2_with fail
  go_ret
  refine ⟨?_, PP.out⟩
  cases b
  ·first | rfl | simp
  ·exfalso
   have hr := HB.out.1 rfl
   have hl := HL.out
   unfold rightR at hr
   omega
 ·replace KN := Lib.hid (KN.out (by omega))
  obtain ⟨nd, hnd⟩ : ∃ nd, needF lg = nd := ⟨_, rfl⟩
  have HND := Lib.hid hnd
  rw [hnd] at KN h5
  clear hnd
  go_enter Tryz.func157, Tryz.ntmps157
  go_wp2_with fail
  generalize hW : (w.alloc (.cells #[.int .i64 ep, .int .i64 lg, .slice A n c] 125)) = W at *
  clear hW
  have HK := Lib.hid (show ∀ W', Below W.heap.size W W' → (W'.cell? ⟨w.heap.size, 0, none⟩ = some (.int .i64 ep) ∧ W'.cell? ⟨w.heap.size, 1, none⟩ = some (.int .i64 lg) ∧ W'.cell? ⟨w.heap.size, 2, none⟩ = some (.slice A n c)) from fun W' ho => ⟨(B0.out.below ho B0.out.lt).cell_some (i := 0) rfl, (B0.out.below ho B0.out.lt).cell_some (i := 1) rfl, (B0.out.below ho B0.out.lt).cell_some (i := 2) rfl⟩)
  have OD := Lib.hid ((Below.refl W.heap.size W).drew)
  refine wp_region_held_drew (S := fun W' => W'.cell? ⟨w.heap.size, 0, none⟩ = some (.int .i64 ep) ∧ W'.cell? ⟨w.heap.size, 1, none⟩ = some (.int .i64 lg) ∧ W'.cell? ⟨w.heap.size, 2, none⟩ = some (.slice A n c)) (by kernel_rfl) (HK.out _ OD.out) (fun hHeld => ?_)
  refine zpl [(0,5),(1,6)] ?_
  iterate 2 (refine ztp (v := ?_) rfl (by kernel_rfl) (fun _ _ _ h => h) (by assumption) ?_ ?_; rotate_left; (·intro w hS; (try dsimp only at hS); go_simp; try with_reducible rfl); try simp only [Act.put, pa, pb, pc])
  refine zpe ?_
  refine wpAnyH_take (i := 2) (oi := ⟨some 7, _, _, _, _, _⟩) (v := .bool false) rfl (by kernel_rfl) (by kernel_rfl) (by kernel_rfl) (fun _ _ _ h => h) (Or.inl ⟨by kernel_rfl, ?_⟩) (by assumption) ?_
  ·(intro w hSw; (try dsimp only at hSw); go_simp; (try omega))
  try simp only [Act.put, pa, pb, pc]
  refine zpl [(3,8),(4,9),(5,10)] ?_
  iterate 3 (refine ztp (v := ?_) rfl (by kernel_rfl) (fun _ _ _ h => h) (by assumption) ?_ ?_; rotate_left; (·intro w hS; (try dsimp only at hS); go_simp; try with_reducible rfl); try simp only [Act.put, pa, pb, pc])
  refine zpe ?_
  refine wpAnyH_take (i := 6) (oi := ⟨some 11, _, _, _, _, _⟩) (v := .bool false) rfl (by kernel_rfl) (by kernel_rfl) (by kernel_rfl) (fun _ _ _ h => h) (Or.inl ⟨by kernel_rfl, ?_⟩) (by assumption) ?_
  ·(intro w hSw; (try dsimp only at hSw); go_simp; (try omega))
  try simp only [Act.put, pa, pb, pc]
  refine zpl [(7,12),(8,13),(9,14),(10,15)] ?_
  iterate 4 (refine ztp (v := ?_) rfl (by kernel_rfl) (fun _ _ _ h => h) (by assumption) ?_ ?_; rotate_left; (·intro w hS; (try dsimp only at hS); go_simp; try with_reducible rfl); try simp only [Act.put, pa, pb, pc])
  refine zpe ?_
  refine wpAnyH_take (i := 11) (oi := ⟨some 16, _, _, _, _, _⟩) (v := .bool false) rfl (by kernel_rfl) (by kernel_rfl) (by kernel_rfl) (fun _ _ _ h => h) (Or.inl ⟨by kernel_rfl, ?_⟩) (by assumption) ?_
  ·(intro w hSw; (try dsimp only at hSw); go_simp; (try omega))
  try simp only [Act.put, pa, pb, pc]
  refine zpl [(12,17),(13,18),(14,19),(15,20)] ?_
  iterate 4 (refine ztp (v := ?_) rfl (by kernel_rfl) (fun _ _ _ h => h) (by assumption) ?_ ?_; rotate_left; (·intro w hS; (try dsimp only at hS); go_simp; try with_reducible rfl); try simp only [Act.put, pa, pb, pc])
  refine zpe ?_
  refine wpAnyH_take (i := 16) (oi := ⟨some 21, _, _, _, _, _⟩) (v := .bool false) rfl (by kernel_rfl) (by kernel_rfl) (by kernel_rfl) (fun _ _ _ h => h) (Or.inl ⟨by kernel_rfl, ?_⟩) (by assumption) ?_
  ·(intro w hSw; (try dsimp only at hSw); go_simp; (try omega))
  try simp only [Act.put, pa, pb, pc]
  refine zpl [(17,22),(18,23),(19,24),(20,25),(21,26),(22,27),(23,28)] ?_
  iterate 7 (refine ztp (v := ?_) rfl (by kernel_rfl) (fun _ _ _ h => h) (by assumption) ?_ ?_; rotate_left; (·intro w hS; (try dsimp only at hS); go_simp; try with_reducible rfl); try simp only [Act.put, pa, pb, pc])
  refine zpe ?_
  refine wpAnyH_ready (rs := [24]) (by kernel_rfl) (by simp) ?_
  refine AllReadyH.cons (o := ⟨some 29, _, _, _, _, _⟩) rfl (fun K hK => ?_) AllReadyH.nil
  go_simp
  go_at_call 102
  refine (KN.out _).mono ?_
  rintro r w2 ⟨rfl, hb2⟩
  have P2 := Lib.hid (bstep OD.out hb2)
  go_simp
  refine hK.out _ _ (HK.out _ P2.out) (fun hHeld => ?_)
  try simp only [Act.put, pa, pb, pc]
  refine wpAnyH_take (i := 25) (oi := ⟨some 30, _, _, _, _, _⟩) (v := .bool true) rfl (by kernel_rfl) (by kernel_rfl) (by kernel_rfl) (fun _ _ _ h => h) (Or.inl ⟨by kernel_rfl, ?_⟩) (by assumption) ?_
  ·(intro w hSw; (try dsimp only at hSw); go_simp; (try omega))
  try simp only [Act.put, pa, pb, pc]
  refine zpl [(26,31)] ?_
  iterate 1 (refine ztp (v := ?_) rfl (by kernel_rfl) (fun _ _ _ h => h) (by assumption) ?_ ?_; rotate_left; (·intro w hS; (try dsimp only at hS); go_simp; try with_reducible rfl); try simp only [Act.put, pa, pb, pc])
  refine zpe ?_
  refine wpAnyH_done (by kernel_rfl) ?_ _
  have PP := Lib.hid (bstep O0.out P2.out)
  go_wp2_with fail
  go_ret
  refine ⟨?_, PP.out⟩
  cases b
  ·first | rfl | simp
  ·exfalso
   have hr := HB.out.1 rfl
   have hl := HL.out
   unfold rightR at hr
   rw [HND.out] at hr
   omega
 ·replace KN := Lib.hid (KN.out (by omega))
  obtain ⟨nd, hnd⟩ : ∃ nd, needF lg = nd := ⟨_, rfl⟩
  have HND := Lib.hid hnd
  rw [hnd] at KN h5
  clear hnd
  go_enter Tryz.func157, Tryz.ntmps157
  go_wp2_with fail
  generalize hW : (w.alloc (.cells #[.int .i64 ep, .int .i64 lg, .slice A n c] 125)) = W at *
  clear hW
  have HK := Lib.hid (show ∀ W', Below W.heap.size W W' → (W'.cell? ⟨w.heap.size, 0, none⟩ = some (.int .i64 ep) ∧ W'.cell? ⟨w.heap.size, 1, none⟩ = some (.int .i64 lg) ∧ W'.cell? ⟨w.heap.size, 2, none⟩ = some (.slice A n c)) from fun W' ho => ⟨(B0.out.below ho B0.out.lt).cell_some (i := 0) rfl, (B0.out.below ho B0.out.lt).cell_some (i := 1) rfl, (B0.out.below ho B0.out.lt).cell_some (i := 2) rfl⟩)
  have OD := Lib.hid ((Below.refl W.heap.size W).drew)
  refine wp_region_held_drew (S := fun W' => W'.cell? ⟨w.heap.size, 0, none⟩ = some (.int .i64 ep) ∧ W'.cell? ⟨w.heap.size, 1, none⟩ = some (.int .i64 lg) ∧ W'.cell? ⟨w.heap.size, 2, none⟩ = some (.slice A n c)) (by kernel_rfl) (HK.out _ OD.out) (fun hHeld => ?_)
  refine zpl [(0,5),(1,6)] ?_
  iterate 2 (refine ztp (v := ?_) rfl (by kernel_rfl) (fun _ _ _ h => h) (by assumption) ?_ ?_; rotate_left; (·intro w hS; (try dsimp only at hS); go_simp; try with_reducible rfl); try simp only [Act.put, pa, pb, pc])
  refine zpe ?_
  refine wpAnyH_take (i := 2) (oi := ⟨some 7, _, _, _, _, _⟩) (v := .bool false) rfl (by kernel_rfl) (by kernel_rfl) (by kernel_rfl) (fun _ _ _ h => h) (Or.inl ⟨by kernel_rfl, ?_⟩) (by assumption) ?_
  ·(intro w hSw; (try dsimp only at hSw); go_simp; (try omega))
  try simp only [Act.put, pa, pb, pc]
  refine zpl [(3,8),(4,9),(5,10)] ?_
  iterate 3 (refine ztp (v := ?_) rfl (by kernel_rfl) (fun _ _ _ h => h) (by assumption) ?_ ?_; rotate_left; (·intro w hS; (try dsimp only at hS); go_simp; try with_reducible rfl); try simp only [Act.put, pa, pb, pc])
  refine zpe ?_
  refine wpAnyH_take (i := 6) (oi := ⟨some 11, _, _, _, _, _⟩) (v := .bool false) rfl (by kernel_rfl) (by kernel_rfl) (by kernel_rfl) (fun _ _ _ h => h) (Or.inl ⟨by kernel_rfl, ?_⟩) (by assumption) ?_
  ·(intro w hSw; (try dsimp only at hSw); go_simp; (try omega))
  try simp only [Act.put, pa, pb, pc]
  refine zpl [(7,12),(8,13),(9,14),(10,15)] ?_
  iterate 4 (refine ztp (v := ?_) rfl (by kernel_rfl) (fun _ _ _ h => h) (by assumption) ?_ ?_; rotate_left; (·intro w hS; (try dsimp only at hS); go_simp; try with_reducible rfl); try simp only [Act.put, pa, pb, pc])
  refine zpe ?_
  refine wpAnyH_take (i := 11) (oi := ⟨some 16, _, _, _, _, _⟩) (v := .bool false) rfl (by kernel_rfl) (by kernel_rfl) (by kernel_rfl) (fun _ _ _ h => h) (Or.inl ⟨by kernel_rfl, ?_⟩) (by assumption) ?_
  ·(intro w hSw; (try dsimp only at hSw); go_simp; (try omega))
  try simp only [Act.put, pa, pb, pc]
  refine zpl [(12,17),(13,18),(14,19),(15,20)] ?_
  iterate 4 (refine ztp (v := ?_) rfl (by kernel_rfl) (fun _ _ _ h => h) (by assumption) ?_ ?_; rotate_left; (·intro w hS; (try dsimp only at hS); go_simp; try with_reducible rfl); try simp only [Act.put, pa, pb, pc])
  refine zpe ?_
  refine wpAnyH_take (i := 16) (oi := ⟨some 21, _, _, _, _, _⟩) (v := .bool false) rfl (by kernel_rfl) (by kernel_rfl) (by kernel_rfl) (fun _ _ _ h => h) (Or.inl ⟨by kernel_rfl, ?_⟩) (by assumption) ?_
  ·(intro w hSw; (try dsimp only at hSw); go_simp; (try omega))
  try simp only [Act.put, pa, pb, pc]
  refine zpl [(17,22),(18,23),(19,24),(20,25),(21,26),(22,27),(23,28)] ?_
  iterate 7 (refine ztp (v := ?_) rfl (by kernel_rfl) (fun _ _ _ h => h) (by assumption) ?_ ?_; rotate_left; (·intro w hS; (try dsimp only at hS); go_simp; try with_reducible rfl); try simp only [Act.put, pa, pb, pc])
  refine zpe ?_
  refine wpAnyH_ready (rs := [24]) (by kernel_rfl) (by simp) ?_
  refine AllReadyH.cons (o := ⟨some 29, _, _, _, _, _⟩) rfl (fun K hK => ?_) AllReadyH.nil
  go_simp
  go_at_call 102
  refine (KN.out _).mono ?_
  rintro r w2 ⟨rfl, hb2⟩
  have P2 := Lib.hid (bstep OD.out hb2)
  go_simp
  refine hK.out _ _ (HK.out _ P2.out) (fun hHeld => ?_)
  try simp only [Act.put, pa, pb, pc]
  refine wpAnyH_take (i := 25) (oi := ⟨some 30, _, _, _, _, _⟩) (v := .bool false) rfl (by kernel_rfl) (by kernel_rfl) (by kernel_rfl) (fun _ _ _ h => h) (Or.inl ⟨by kernel_rfl, ?_⟩) (by assumption) ?_
  ·(intro w hSw; (try dsimp only at hSw); go_simp; (try omega))
  try simp only [Act.put, pa, pb, pc]
  refine zpl [(26,31)] ?_
  iterate 1 (refine ztp (v := ?_) rfl (by kernel_rfl) (fun _ _ _ h => h) (by assumption) ?_ ?_; rotate_left; (·intro w hS; (try dsimp only at hS); go_simp; try with_reducible rfl); try simp only [Act.put, pa, pb, pc])
  refine zpe ?_
  refine wpAnyH_done (by kernel_rfl) ?_ _
  have PP := Lib.hid (bstep O0.out P2.out)
  have B2 := Lib.hid (B0.out.below P2.out B0.out.lt)
  have H2 := Lib.hid (H0.out.below P2.out)
  have y2 : w2.cell? ⟨w.heap.size, 2, none⟩ = some (.slice A n c) := B2.out.cell_some (i := 2) rfl
  go_wp2_with fail
  go_loopw [35] (fun iv wr => ∃ i : Nat, i ≤ n ∧ iv = .int .i64 i ∧ Hid (∀ j x, j < i → l[j]? = some x → 0 ≤ x ∧ x ≤ 1023 ∧ x ∉ l.take j) ∧ wr = w2) (fun iv _ => n - (intOf iv).toNat)
  case atStart => exact ⟨0, Nat.zero_le _, rfl, Lib.hid (fun j x h => absurd h (Nat.not_lt_zero _)), rfl⟩
  case round =>
   obtain ⟨i, hi, rfl, HX, rfl⟩ := hrel
   by_cases h' : i < n
   ·obtain ⟨ad, x, rfl, hx, ck⟩ := H2.out.at i h'
    have hiI : (i : Int) < (n : Int) := by omega
    have HXX := Lib.hid hx
    have HT := Lib.hid (H2.out.take i (by omega))
    clear hx
    have NO := Lib.hid (show ¬ (0 ≤ x ∧ x ≤ 1023 ∧ x ∉ l.take i) → b = false from fun hno => by
     cases b
     ·rfl
     ·exact absurd ((HB.out.1 rfl).2.2.2.2.2 i x HXX.out) hno)
    by_cases x0 : x < 0
    ·go_wp2_with fail
     go_ret
     refine ⟨?_, PP.out⟩
     rw [NO.out (by omega)]; first | rfl | simp
    ·by_cases x1 : 1023 < x
     ·go_wp2_with fail
      go_ret
      refine ⟨?_, PP.out⟩
      rw [NO.out (by omega)]; first | rfl | simp
     ·obtain ⟨q, hq⟩ := bool_of (x ∈ l.take i)
      have KC := Lib.hid (contains_any (w := wr) (some ad) i c (l.take i) x HT.out (by omega) q hq)
      have HQ := Lib.hid hq
      have hc : (i : Int) ≤ (c : Int) := by omega
      clear hq
      go_wp2_with fail
      refine KC.out.mono ?_
      rintro e w3 ⟨rfl, rfl⟩
      cases q
      ·have HX2 := Lib.hid (show ∀ j z, j < i + 1 → l[j]? = some z → 0 ≤ z ∧ z ≤ 1023 ∧ z ∉ l.take j from fun j z hj hz => by
        rcases Nat.lt_succ_iff_lt_or_eq.1 hj with h1 | rfl
        ·exact HX.out j z h1 hz
        ·rw [HXX.out] at hz; injection hz with hz; subst hz
         exact ⟨by omega, by omega, fun hm => by have := HQ.out.2 hm; cases this⟩)
       go_wp2_with fail
       go_roundw
       case rel => exact ⟨i + 1, by omega, by go_num, HX2, by first | rfl | trivial⟩
       case measure => simp [intOf]; omega
      ·go_wp2_with fail
       go_ret
       refine ⟨?_, PP.out⟩
       rw [NO.out (fun hx => hx.2.2 (HQ.out.1 (by trivial)))]; first | rfl | simp
   ·obtain rfl : i = n := by omega
    go_wp2_with fail
    go_ret
    refine ⟨?_, PP.out⟩
    have : rightR ep lg l := ⟨by omega, by omega, by omega, by omega, by rw [HND.out, HL.out]; exact h5, fun j x hx => HX.out j x (by have := (List.getElem?_eq_some_iff.1 hx).1; rw [HL.out] at this; exact this) hx⟩
    rw [HB.out.2 this]; first | rfl | simp
end Go.Proofs.YtbelcgjbhpjnpaaGreat.Rt

/- roots: bytes laid. -/
namespace Go.Proofs.YtbelcgjbhpjnpaaGreat.Rt
open Go.RowKit Pk
attribute [local go_sem ↓] Go.wp_at_zero Go.wp_at_succ exec_app
def two8 (n : Nat) : List UInt8 := [UInt8.ofNat (n / 256), UInt8.ofNat n]
theorem append_cells {P : Program} {w : World} {e : TypeId} {v : Value} {n : Nat} {l : List Value} (S : Slc w e 1 v n l)
  (T ty : TypeId) (z : Value) (bytes : Nat) (ht : P.underlying T = some (.slice e)) (hinfo : (P.info? e).map (fun i => (i.zero, i.size, i.bytes)) = some (some z, 1, bytes)) (hz : z.cells.size = 1)
  (news : List Value) (hx : ∀ u ∈ news, u.oneCell' = true) (h63 : n + news.length ≤ maxLen) (hb : (n + news.length) * bytes ≤ 140737488355328) :
  ∃ v' w', appRun P T ty (w.alloc (.cells news.toArray e)) v (.slice (some ⟨w.heap.size, 0, none⟩) news.length news.length) = .ok v' w' ∧ Slc w' e 1 v' (n + news.length) (l ++ news) ∧ Only (ownB v) w w' ∧ (∀ g ∈ ownB v', g ∈ ownB v ∨ w.heap.size ≤ g) := by
 obtain ⟨i0, hi, hz0, hz1, hz2⟩ := info_parts hinfo
 obtain ⟨v', w', h1, h2, h3, h4⟩ := append_slc (P := P) (S.alloc (.cells news.toArray e)) T ty i0 z bytes ht hi hz0 hz1 hz2 hz (by omega)
  ⟨w.heap.size, 0, none⟩ news.length news.length news (by simp) (cells_at (l := news) (Blk.new w e news.toArray) 0 _ (by intro j u hu; rw [Nat.zero_add]; exact hu)) hx h63 hb
 exact ⟨v', w', h1, h2, ((Only.refl _ _).alloc _).trans_of h3 (fun x hx _ => hx), fun g hg => (h4 g hg).imp id (fun h => by simp at h; omega)⟩
set_option maxRecDepth 100000 in
set_option maxHeartbeats 2000000 in
theorem two_any {w : World} (v : Value) (k : Nat) (l : List UInt8) (S : Slc w 5 1 v k (bvs l)) (n : Nat) (hn : n ≤ 65535) (hk : k ≤ 1000) :
  Calls Tryz.prog 158 #[v, .int .i64 (n : Nat)] w fun e w' => (∃ v', e = .returned v' ∧ Slc w' 5 1 v' (k + 2) (bvs (l ++ two8 n)) ∧ (∀ g ∈ ownB v', g ∈ ownB v ∨ w.heap.size ≤ g)) ∧ Only (ownB v) w w' := by
 obtain ⟨A, c, rfl⟩ := slc_val S
 have e0 : Value.int .u8 ((n : Int) / 256) = bv (UInt8.ofNat (n / 256)) := by
  unfold bv
  congr 1
  rw [UInt8.toNat_ofNat']
  omega
 have e1 : Value.int .u8 ((n : Int) % 256) = bv (UInt8.ofNat n) := by
  unfold bv
  rfl
 obtain ⟨v', w2, ea, S2, ow, fr⟩ := append_cells (P := Tryz.prog) S 141 141 (.int .u8 0) 1 Tryz.underlying141 Crc.info_u8 rfl [.int .u8 ((n : Int) / 256), .int .u8 ((n : Int) % 256)] (by intro u hu; simp at hu; rcases hu with rfl | rfl <;> rfl) (by simp; unfold maxLen; omega) (by simp; omega)
 obtain ⟨V2, vc2, rfl⟩ := slc_val S2
 have EA := Lib.hid (show appRun Tryz.prog 141 141 (w.alloc (.cells #[.int .u8 ((n : Int) / 256), .int .u8 ((n : Int) % 256)] 5)) (.slice A k c) (.slice (some ⟨w.heap.size, 0, none⟩) 2 2) = .ok (.slice V2 (k + 2) vc2) w2 from ea)
 have SX := Lib.hid (show Slc w2 5 1 (.slice V2 (k + 2) vc2) (k + 2) (bvs (l ++ two8 n)) from by
  rw [e0, e1] at S2
  rw [bvs_append]
  exact S2)
 have OX := Lib.hid ow
 have FX := Lib.hid fr
 have m1 : IntKind.u8.wrap ((n : Int) / 256) = (n : Int) / 256 := IntWalk.u8_in _ (by omega)
 clear ea S2 ow fr S e0 e1
 go_enter Tryz.func158, Tryz.ntmps158
 go_wp2_with fail
 rw [EA.out]
 go_wp2_with fail
 go_ret
 exact ⟨⟨_, rfl, SX.out, FX.out⟩, OX.out⟩
/-- what a root's bytes are: the middle -/
def midL (lg : Nat) (l : List Nat) : List UInt8 := (two8 lg ++ two8 l.length ++ (l ++ List.replicate (5 - l.length) 0).flatMap two8) ++ List.replicate 30 0
def rootL (ep : Int) (lg : Nat) (l : List Nat) : List UInt8 := packI ep ++ Crc.layF (midL lg l) ++ packI ep
end Go.Proofs.YtbelcgjbhpjnpaaGreat.Rt

/- roots: Put. -/
namespace Go.Proofs.YtbelcgjbhpjnpaaGreat.Rt
open Go.RowKit Pk
attribute [local go_sem ↓] Go.wp_at_zero Go.wp_at_succ exec_app
set_option maxRecDepth 100000 in
set_option maxHeartbeats 2000000 in
theorem rput_no {w : World} (ep lg : Int) (A : Option Addr) (n c : Nat) (l : List Int) (h : IntsAt w A n l) (hn : n ≤ 1000000) (hnc : n ≤ c) (hr : ¬ rightR ep lg l) :
  Calls Tryz.prog 97 #[rootV ep lg A n c] w fun e w' => e = .returned (.tuple #[.string ⟨#[]⟩, .int .i64 2]) ∧ Below w.heap.size w w' := by
 have O0 := belowAlloc (Below.refl w.heap.size w) (.cells #[.int .i64 ep, .int .i64 lg, .slice A n c] 125)
 have KR := Lib.hid (right_any (w := w.alloc (.cells #[.int .i64 ep, .int .i64 lg, .slice A n c] 125)) ep lg A n c l (h.below O0) hn hnc false (by simp [hr]))
 have O0 := Lib.hid O0
 clear h hr
 unfold rootV at *
 go_enter Tryz.func97, Tryz.ntmps97
 go_wp2_with fail
 refine KR.out.mono ?_
 rintro e w1 ⟨rfl, hb1⟩
 have O1 := Lib.hid (bstep O0.out hb1)
 clear hb1
 go_wp2_with fail
 go_ret2
 exact ⟨rfl, O1.out⟩
def lenV : Value → Nat
 | .slice _ n _ => n
 | _ => 0
theorem idx5 (a0 a1 a2 a3 a4 : Int) (w : World) (k : Nat) (x : Value) (hx : #[Value.int .i64 a0, .int .i64 a1, .int .i64 a2, .int .i64 a3, .int .i64 a4][k]? = some x) :
  (Instr.index 185 (.agg #[.int .i64 a0, .int .i64 a1, .int .i64 a2, .int .i64 a3, .int .i64 a4]) (.int .i64 (k : Int))).run Tryz.prog w = .ok x w := by
 have hu : Tryz.prog.underlying 185 = some (.array 5 3) := by kernel_rfl
 have hm : (Tryz.prog.info? 3).map (·.size) = some 1 := by kernel_rfl
 have hp : Tryz.prog.plainKey 3 = true := by kernel_rfl
 have hk : k < 5 := by
  rcases Nat.lt_or_ge k 5 with h | h
  ·exact h
  ·rw [Array.getElem?_eq_none (by simpa using h)] at hx; cases hx
 cases hq : Tryz.prog.info? 3 with
 | none => simp [hq] at hm
 | some i =>
  simp only [hq, Option.map_some, Option.some.injEq] at hm
  have := run_part_plain (P := Tryz.prog) w hp hx
  simp [Instr.index, asIntOf, run_underlying hu, hk, sizeOf, typeInfo, hq, hm]
  exact this
def natI (l : List Nat) : List Int := l.map Int.ofNat
def ivs (l : List Nat) : List Value := l.map fun (x : Nat) => Value.int .i64 (x : Int)
theorem copy_parts {W : World} {g : Nat} {A : Option Addr} {n c : Nat} {l : List Nat} (B : Blk W g 185 #[.int .i64 0, .int .i64 0, .int .i64 0, .int .i64 0, .int .i64 0]) (H : IntsAt W A n (natI l)) (hl : l.length = n) (hn : n ≤ 5) :
  ∃ w', (Builtin.copy_ #[52, 52] 3 #[.slice (some ⟨g, 0, none⟩) 5 5, .slice A n c]).run Tryz.prog W = .ok (goInt n) w' ∧ Blk w' g 185 (ivs (l ++ List.replicate (5 - l.length) 0)).toArray ∧ Only [g] W w' := by
 cases A with
 | none =>
  have h0 : n = 0 := by
   by_cases h0 : n = 0
   ·exact h0
   ·obtain ⟨ad, x, h1, _⟩ := H.at 0 (by omega)
    cases h1
  subst h0
  have hl0 : l = [] := List.eq_nil_of_length_eq_zero hl
  subst hl0
  refine ⟨W, ?_, B, Only.refl _ _⟩
  simp [Builtin.copy_, run_underlying Tryz.underlying52, Builtin.lenOf, Builtin.firstCells, storeCells]
 | some ad =>
  have hlen : (ivs l).length = n := by simp [ivs, hl]
  obtain ⟨w', e, B', o⟩ := copy_cells (P := Tryz.prog) (cur := [.int .i64 0, .int .i64 0, .int .i64 0, .int .i64 0, .int .i64 0]) B 52 52 3 3 0 5 5 ad n c (ivs l) Tryz.underlying52 (by kernel_rfl) (by rw [hlen]; exact (Nat.min_eq_left hn).symm)
   (fun j v hv => by
    have hj : j < l.length := by have := (List.getElem?_eq_some_iff.1 hv).1; simpa [ivs] using this
    have hx : (natI l)[j]? = some (Int.ofNat l[j]) := by simp [natI, List.getElem?_eq_getElem hj]
    obtain ⟨ad', e1, h1⟩ := H.2 j _ hx
    injection e1 with e1
    subst e1
    simp only [ivs, List.getElem?_map, List.getElem?_eq_getElem hj, Option.map_some, Option.some.injEq] at hv
    subst hv
    exact h1) (by rw [hlen]; exact (by omega : 0 + n ≤ 5)) (by intro v hv; simp only [ivs, List.mem_map] at hv; obtain ⟨x, _, rfl⟩ := hv; rfl)
  rw [hlen] at e
  refine ⟨w', e, ?_, o⟩
  have : putAt [.int .i64 0, .int .i64 0, .int .i64 0, .int .i64 0, .int .i64 0] 0 (ivs l) = ivs (l ++ List.replicate (5 - l.length) 0) := by
   unfold putAt
   rw [List.take_zero, List.nil_append, Nat.zero_add, hlen, hl]
   have hz : ([.int .i64 0, .int .i64 0, .int .i64 0, .int .i64 0, .int .i64 0] : List Value).drop n = ivs (List.replicate (5 - n) 0) := by
    rcases (show n = 0 ∨ n = 1 ∨ n = 2 ∨ n = 3 ∨ n = 4 ∨ n = 5 by omega) with rfl | rfl | rfl | rfl | rfl | rfl <;> rfl
   rw [hz]
   simp [ivs]
  rw [← this]; exact B'
set_option maxRecDepth 100000 in
set_option maxHeartbeats 4000000 in
theorem rput_yes {w : World} (ep : Int) (lg : Nat) (A : Option Addr) (n c : Nat) (l : List Nat) (h : IntsAt w A n (natI l)) (hnc : n ≤ c) (hr : rightR ep lg (natI l)) :
  Calls Tryz.prog 97 #[rootV ep lg A n c] w fun e w' => e = .returned (.tuple #[.string ⟨(rootL ep lg l).toArray⟩, .int .i64 0]) ∧ Below w.heap.size w w' := by
 have hn5 := rightR_len hr
 have hll : l.length = n := by have := h.1; simpa [natI] using this
 have hn : n ≤ 5 := by rw [← hll]; simpa [natI] using hn5
 have hlg : lg ≤ 512 := by have := hr.2.2.2.1; omega
 have O0 := belowAlloc (Below.refl w.heap.size w) (.cells #[.int .i64 ep, .int .i64 (lg : Int), .slice A n c] 125)
 have B0 := Lib.hid (Blk.new w 125 #[.int .i64 ep, .int .i64 (lg : Int), .slice A n c])
 have H0 := Lib.hid (h.below O0)
 have KR := Lib.hid (right_any (w := w.alloc (.cells #[.int .i64 ep, .int .i64 (lg : Int), .slice A n c] 125)) ep lg A n c (natI l) H0.out (by omega) hnc true (by simp [hr]))
 have O0 := Lib.hid O0
 have HR := Lib.hid hr
 have HLL := Lib.hid hll
 clear h hr hn5
 unfold rootV at *
 go_enter Tryz.func97, Tryz.ntmps97
 go_wp2_with fail
 generalize hW : (w.alloc (.cells #[.int .i64 ep, .int .i64 (lg : Int), .slice A n c] 125)) = W at *
 clear hW
 refine KR.out.mono ?_
 rintro e w1 ⟨rfl, hb1⟩
 have O1 := Lib.hid (bstep O0.out hb1)
 have B1 := Lib.hid (B0.out.below hb1 B0.out.lt)
 have H1 := Lib.hid (H0.out.below hb1)
 clear hb1 KR
 go_wp2_with fail
 have HK := Lib.hid (show ∀ W', Below w1.heap.size w1 W' → (W'.cell? ⟨w.heap.size, 0, none⟩ = some (.int .i64 ep) ∧ W'.cell? ⟨w.heap.size, 1, none⟩ = some (.int .i64 (lg : Int)) ∧ W'.cell? ⟨w.heap.size, 2, none⟩ = some (.slice A n c)) from fun W' ho => ⟨(B1.out.below ho B1.out.lt).cell_some (i := 0) rfl, (B1.out.below ho B1.out.lt).cell_some (i := 1) rfl, (B1.out.below ho B1.out.lt).cell_some (i := 2) rfl⟩)
 have OD := Lib.hid ((Below.refl w1.heap.size w1).drew)
 refine wp_region_held_drew (S := fun W' => W'.cell? ⟨w.heap.size, 0, none⟩ = some (.int .i64 ep) ∧ W'.cell? ⟨w.heap.size, 1, none⟩ = some (.int .i64 (lg : Int)) ∧ W'.cell? ⟨w.heap.size, 2, none⟩ = some (.slice A n c)) (by kernel_rfl) (HK.out _ OD.out) (fun hHeld => ?_)
 refine zpl [(0,12),(1,13),(3,15),(4,16),(5,17)] ?_
 iterate 5 (refine ztp (v := ?_) rfl (by kernel_rfl) (fun _ _ _ h => h) (by assumption) ?_ ?_; rotate_left; (·intro w hS; (try dsimp only at hS); go_simp; try with_reducible rfl); try simp only [Act.put, pa, pb, pc])
 refine zpe ?_
 refine wpAnyH_ready (rs := [2]) (by kernel_rfl) (by simp) ?_
 refine AllReadyH.cons (o := ⟨some 14, _, _, _, _, _⟩) rfl (fun K hK => ?_) AllReadyH.nil
 go_simp
 go_at_call 158
 refine (two_any _ 0 [] (Slc.nil _ _ _) lg (by omega) (by omega)).mono ?_
 rintro r w2 ⟨⟨v2, rfl, S2, F2⟩, o2⟩
 have P2 := Lib.hid (OD.out.trans (o2.below_of OD.out.size (by simp [ownB])))
 have F2 := Lib.hid (show ∀ g ∈ ownB v2, w1.heap.size ≤ g from fun g hg => (F2 g hg).elim (fun h => by simp [ownB] at h) (fun h => Nat.le_trans OD.out.size h))
 go_simp
 refine hK.out _ _ (HK.out _ P2.out) (fun hHeld => ?_)
 try simp only [Act.put, pa, pb, pc]
 refine wpAnyH_ready (rs := [6]) (by kernel_rfl) (by simp) ?_
 refine AllReadyH.cons (o := ⟨some 18, _, _, _, _, _⟩) rfl (fun K hK => ?_) AllReadyH.nil
 go_simp
 go_at_call 158
 refine (two_any _ 2 _ S2 n (by omega) (by omega)).mono ?_
 rintro r w3 ⟨⟨v3, rfl, S3, F3⟩, o3⟩
 have P3 := Lib.hid (P2.out.trans (o3.below_of P2.out.size F2.out))
 have F3 := Lib.hid (show ∀ g ∈ ownB v3, w1.heap.size ≤ g from fun g hg => (F3 g hg).elim (F2.out g) (fun h => Nat.le_trans P2.out.size h))
 go_simp
 refine hK.out _ _ (HK.out _ P3.out) (fun hHeld => ?_)
 try simp only [Act.put, pa, pb, pc]
 refine zpl [(7,4)] ?_
 iterate 1 (refine ztp (v := ?_) rfl (by kernel_rfl) (fun _ _ _ h => h) (by assumption) ?_ ?_; rotate_left; (·intro w hS; (try dsimp only at hS); go_simp; try with_reducible rfl); try simp only [Act.put, pa, pb, pc])
 refine zpe ?_
 refine wpAnyH_done (by kernel_rfl) ?_ _
 have O3 := Lib.hid (bstep O1.out P3.out)
 have B3 := Lib.hid (B1.out.below P3.out B1.out.lt)
 have H3 := Lib.hid (H1.out.below P3.out)
 have S3 := Lib.hid S3
 obtain ⟨V3, c3, rfl⟩ := slc_val S3.out
 have F3 := Lib.hid (show ∀ g ∈ ownB (.slice V3 4 c3), w.heap.size + 1 ≤ g from fun g hg => Nat.le_trans (by have := B1.out.lt; omega) (F3.out g hg))
 clear hHeld o2 o3 S2 P2 P3 F2 OD HK
 -- the parts
 have BA := Lib.hid (Blk.new w3 185 #[.int .i64 0, .int .i64 0, .int .i64 0, .int .i64 0, .int .i64 0])
 have O4 := Lib.hid (belowAlloc O3.out (.cells #[.int .i64 0, .int .i64 0, .int .i64 0, .int .i64 0, .int .i64 0] 185))
 have B4 := Lib.hid (B3.out.alloc (.cells #[.int .i64 0, .int .i64 0, .int .i64 0, .int .i64 0, .int .i64 0] 185))
 have S4 := Lib.hid (S3.out.alloc (.cells #[.int .i64 0, .int .i64 0, .int .i64 0, .int .i64 0, .int .i64 0] 185))
 have H4 := Lib.hid (H3.out.below (belowAlloc (Below.refl _ _) (.cells #[.int .i64 0, .int .i64 0, .int .i64 0, .int .i64 0, .int .i64 0] 185)))
 go_wp2_with fail
 generalize hW : (w3.alloc _) = w4 at *
 have W3LT := B4.out.lt
 have HK := Lib.hid (show ∀ W', Only [w3.heap.size] w4 W' → (W'.cell? ⟨w.heap.size, 0, none⟩ = some (.int .i64 ep) ∧ W'.cell? ⟨w.heap.size, 1, none⟩ = some (.int .i64 (lg : Int)) ∧ W'.cell? ⟨w.heap.size, 2, none⟩ = some (.slice A n c)) from fun W' ho => by
  have hne : w.heap.size ∉ [w3.heap.size] := by have := B3.out.lt; simp; omega
  have B := B4.out.only ho hne
  exact ⟨B.cell_some (i := 0) rfl, B.cell_some (i := 1) rfl, B.cell_some (i := 2) rfl⟩)
 have OD := Lib.hid ((Only.refl [w3.heap.size] w4).drew)
 refine wp_region_held_drew (S := fun W' => W'.cell? ⟨w.heap.size, 0, none⟩ = some (.int .i64 ep) ∧ W'.cell? ⟨w.heap.size, 1, none⟩ = some (.int .i64 (lg : Int)) ∧ W'.cell? ⟨w.heap.size, 2, none⟩ = some (.slice A n c)) (by kernel_rfl) (HK.out _ OD.out) (fun hHeld => ?_)
 refine zpl [(0,19),(1,20),(2,21)] ?_
 iterate 3 (refine ztp (v := ?_) rfl (by kernel_rfl) (fun _ _ _ h => h) (by assumption) ?_ ?_; rotate_left; (·intro w hS; (try dsimp only at hS); go_simp; try with_reducible rfl); try simp only [Act.put, pa, pb, pc])
 refine zpe ?_
 refine wpAnyH_ready (rs := [3]) (by kernel_rfl) (by simp) ?_
 refine AllReadyH.cons (o := ⟨some 22, _, _, _, _, _⟩) rfl (fun K hK => ?_) AllReadyH.nil
 obtain ⟨w5, ec, BQ, oc⟩ := copy_parts (W := w4.drew) BA.out (show IntsAt w4.drew A n (natI l) from H4.out.below (Below.refl _ _).drew) HLL.out hn
 have EC := Lib.hid ec
 have OC := Lib.hid (OD.out.trans oc)
 have BQ := Lib.hid BQ
 clear ec oc
 go_simp
 rw [EC.out]
 go_simp
 refine hK.out _ _ (HK.out _ OC.out) (fun hHeld => ?_)
 try simp only [Act.put, pa, pb, pc]
 refine wpAnyH_done (by kernel_rfl) ?_ _
 have hq5 : (l ++ List.replicate (5 - l.length) 0).length = 5 := by rw [List.length_append, List.length_replicate]; have := HLL.out; omega
 have hqs : ∀ x ∈ l ++ List.replicate (5 - l.length) 0, x ≤ 1023 := by
  intro x hx
  rcases List.mem_append.1 hx with hx | hx
  ·obtain ⟨i, hi, rfl⟩ := List.getElem_of_mem hx
   have h1 := HR.out.2.2.2.2.2 i ((l[i] : Nat) : Int) (by simp [natI]; exact ⟨l[i], List.getElem?_eq_getElem hi, rfl⟩)
   omega
  ·have := List.eq_of_mem_replicate hx; omega
 obtain ⟨q, hqq⟩ : ∃ q, l ++ List.replicate (5 - l.length) 0 = q := ⟨_, rfl⟩
 have HQQ := Lib.hid hqq
 rw [hqq] at BQ hq5 hqs
 clear hqq
 match q, hq5 with
 | [q0, q1, q2, q3, q4], _ =>
 have p0 : q0 ≤ 1023 := hqs _ (by simp)
 have p1 : q1 ≤ 1023 := hqs _ (by simp)
 have p2 : q2 ≤ 1023 := hqs _ (by simp)
 have p3 : q3 ≤ 1023 := hqs _ (by simp)
 have p4 : q4 ≤ 1023 := hqs _ (by simp)
 have a0 : w5.cell? ⟨w3.heap.size, 0, none⟩ = some (.int .i64 (q0 : Int)) := BQ.out.cell_some (i := 0) rfl
 have a1 : w5.cell? ⟨w3.heap.size, 1, none⟩ = some (.int .i64 (q1 : Int)) := BQ.out.cell_some (i := 1) rfl
 have a2 : w5.cell? ⟨w3.heap.size, 2, none⟩ = some (.int .i64 (q2 : Int)) := BQ.out.cell_some (i := 2) rfl
 have a3 : w5.cell? ⟨w3.heap.size, 3, none⟩ = some (.int .i64 (q3 : Int)) := BQ.out.cell_some (i := 3) rfl
 have a4 : w5.cell? ⟨w3.heap.size, 4, none⟩ = some (.int .i64 (q4 : Int)) := BQ.out.cell_some (i := 4) rfl
 have hw3 : w.heap.size < w3.heap.size := B3.out.lt
 have O5 := Lib.hid (O4.out.trans (OC.out.below_of O4.out.size (fun x hx => by simp at hx; omega)))
 have B5 := Lib.hid (B4.out.only OC.out (by simp; omega))
 have S5 := Lib.hid (S4.out.only OC.out (fun x hx => by have := S3.out.lt x hx; simp; omega))
 clear hHeld hqs OD HK
 go_wp2_with fail
 obtain ⟨HD, hHD⟩ : ∃ HD, [] ++ two8 lg ++ two8 n = HD := ⟨_, rfl⟩
 have HHD := Lib.hid hHD
 rw [hHD] at S5
 clear hHD a0 a1 a2 a3 a4 S4 S3
 go_loopw [4, 24] (fun sv iv wr => ∃ k : Nat, k ≤ 5 ∧ iv = .int .i64 (k : Int) ∧ Slc wr 5 1 sv (4 + 2 * k) (bvs (HD ++ ([q0, q1, q2, q3, q4].take k).flatMap two8)) ∧ Hid (Blk wr w.heap.size 125 #[.int .i64 ep, .int .i64 (lg : Int), .slice A n c]) ∧ Below w.heap.size w wr ∧ Hid (∀ x ∈ ownB sv, w.heap.size + 1 ≤ x)) (fun _ iv _ => 5 - (intOf iv).toNat)
 case atStart => exact ⟨0, by omega, rfl, by simpa using S5.out, B5, O5.out, F3⟩
 case round =>
  obtain ⟨k, hk, rfl, S, C, O, F⟩ := hrel
  obtain ⟨VA, vc, rfl⟩ := slc_val S
  rcases (show k = 0 ∨ k = 1 ∨ k = 2 ∨ k = 3 ∨ k = 4 ∨ k = 5 from by omega) with rfl | rfl | rfl | rfl | rfl | rfl
  ·have K := Lib.hid (two_any _ 4 _ S q0 (by omega) (by omega))
   have OO := Lib.hid O
   have IX := Lib.hid (show (Instr.index 185 (.agg #[.int .i64 (q0 : Int), .int .i64 (q1 : Int), .int .i64 (q2 : Int), .int .i64 (q3 : Int), .int .i64 (q4 : Int)]) (.int .i64 0)).run Tryz.prog wr = .ok (.int .i64 (q0 : Int)) wr from idx5 q0 q1 q2 q3 q4 wr 0 _ rfl)
   clear S O
   go_wp2_with fail
   rw [IX.out]
   go_wp2_with fail
   refine K.out.mono ?_
   rintro r w7 ⟨⟨v7, rfl, S7, F7⟩, o7⟩
   have O7 := Lib.hid (OO.out.trans (o7.below_of OO.out.size (fun x hx => by have := F.out x hx; omega)))
   have C7 := Lib.hid (C.out.only o7 (fun hx => by have := F.out _ hx; omega))
   have F7 := Lib.hid (show ∀ x ∈ ownB v7, w.heap.size + 1 ≤ x from fun x hx => (F7 x hx).elim (F.out x) (fun h => by have := C.out.lt; omega))
   have S7 := Lib.hid (show Slc w7 5 1 v7 (4 + 2 * (0 + 1)) (bvs (HD ++ ([q0, q1, q2, q3, q4].take (0 + 1)).flatMap two8)) from by
    have hx : HD ++ ([q0, q1, q2, q3, q4].take (0 + 1)).flatMap two8 = (HD ++ ([q0, q1, q2, q3, q4].take 0).flatMap two8) ++ two8 q0 := by simp
    rw [hx]; exact S7)
   obtain ⟨V7, c7, rfl⟩ := slc_val S7.out
   clear o7
   go_wp2_with fail
   go_roundw
   case rel => exact ⟨0 + 1, by omega, by first | rfl | go_num, S7.out, C7, O7.out, F7⟩
   case measure => simp [intOf]
  ·have K := Lib.hid (two_any _ 6 _ S q1 (by omega) (by omega))
   have OO := Lib.hid O
   have IX := Lib.hid (show (Instr.index 185 (.agg #[.int .i64 (q0 : Int), .int .i64 (q1 : Int), .int .i64 (q2 : Int), .int .i64 (q3 : Int), .int .i64 (q4 : Int)]) (.int .i64 1)).run Tryz.prog wr = .ok (.int .i64 (q1 : Int)) wr from idx5 q0 q1 q2 q3 q4 wr 1 _ rfl)
   clear S O
   go_wp2_with fail
   rw [IX.out]
   go_wp2_with fail
   refine K.out.mono ?_
   rintro r w7 ⟨⟨v7, rfl, S7, F7⟩, o7⟩
   have O7 := Lib.hid (OO.out.trans (o7.below_of OO.out.size (fun x hx => by have := F.out x hx; omega)))
   have C7 := Lib.hid (C.out.only o7 (fun hx => by have := F.out _ hx; omega))
   have F7 := Lib.hid (show ∀ x ∈ ownB v7, w.heap.size + 1 ≤ x from fun x hx => (F7 x hx).elim (F.out x) (fun h => by have := C.out.lt; omega))
   have S7 := Lib.hid (show Slc w7 5 1 v7 (4 + 2 * (1 + 1)) (bvs (HD ++ ([q0, q1, q2, q3, q4].take (1 + 1)).flatMap two8)) from by
    have hx : HD ++ ([q0, q1, q2, q3, q4].take (1 + 1)).flatMap two8 = (HD ++ ([q0, q1, q2, q3, q4].take 1).flatMap two8) ++ two8 q1 := by simp
    rw [hx]; exact S7)
   obtain ⟨V7, c7, rfl⟩ := slc_val S7.out
   clear o7
   go_wp2_with fail
   go_roundw
   case rel => exact ⟨1 + 1, by omega, by first | rfl | go_num, S7.out, C7, O7.out, F7⟩
   case measure => simp [intOf]
  ·have K := Lib.hid (two_any _ 8 _ S q2 (by omega) (by omega))
   have OO := Lib.hid O
   have IX := Lib.hid (show (Instr.index 185 (.agg #[.int .i64 (q0 : Int), .int .i64 (q1 : Int), .int .i64 (q2 : Int), .int .i64 (q3 : Int), .int .i64 (q4 : Int)]) (.int .i64 2)).run Tryz.prog wr = .ok (.int .i64 (q2 : Int)) wr from idx5 q0 q1 q2 q3 q4 wr 2 _ rfl)
   clear S O
   go_wp2_with fail
   rw [IX.out]
   go_wp2_with fail
   refine K.out.mono ?_
   rintro r w7 ⟨⟨v7, rfl, S7, F7⟩, o7⟩
   have O7 := Lib.hid (OO.out.trans (o7.below_of OO.out.size (fun x hx => by have := F.out x hx; omega)))
   have C7 := Lib.hid (C.out.only o7 (fun hx => by have := F.out _ hx; omega))
   have F7 := Lib.hid (show ∀ x ∈ ownB v7, w.heap.size + 1 ≤ x from fun x hx => (F7 x hx).elim (F.out x) (fun h => by have := C.out.lt; omega))
   have S7 := Lib.hid (show Slc w7 5 1 v7 (4 + 2 * (2 + 1)) (bvs (HD ++ ([q0, q1, q2, q3, q4].take (2 + 1)).flatMap two8)) from by
    have hx : HD ++ ([q0, q1, q2, q3, q4].take (2 + 1)).flatMap two8 = (HD ++ ([q0, q1, q2, q3, q4].take 2).flatMap two8) ++ two8 q2 := by simp
    rw [hx]; exact S7)
   obtain ⟨V7, c7, rfl⟩ := slc_val S7.out
   clear o7
   go_wp2_with fail
   go_roundw
   case rel => exact ⟨2 + 1, by omega, by first | rfl | go_num, S7.out, C7, O7.out, F7⟩
   case measure => simp [intOf]
  ·have K := Lib.hid (two_any _ 10 _ S q3 (by omega) (by omega))
   have OO := Lib.hid O
   have IX := Lib.hid (show (Instr.index 185 (.agg #[.int .i64 (q0 : Int), .int .i64 (q1 : Int), .int .i64 (q2 : Int), .int .i64 (q3 : Int), .int .i64 (q4 : Int)]) (.int .i64 3)).run Tryz.prog wr = .ok (.int .i64 (q3 : Int)) wr from idx5 q0 q1 q2 q3 q4 wr 3 _ rfl)
   clear S O
   go_wp2_with fail
   rw [IX.out]
   go_wp2_with fail
   refine K.out.mono ?_
   rintro r w7 ⟨⟨v7, rfl, S7, F7⟩, o7⟩
   have O7 := Lib.hid (OO.out.trans (o7.below_of OO.out.size (fun x hx => by have := F.out x hx; omega)))
   have C7 := Lib.hid (C.out.only o7 (fun hx => by have := F.out _ hx; omega))
   have F7 := Lib.hid (show ∀ x ∈ ownB v7, w.heap.size + 1 ≤ x from fun x hx => (F7 x hx).elim (F.out x) (fun h => by have := C.out.lt; omega))
   have S7 := Lib.hid (show Slc w7 5 1 v7 (4 + 2 * (3 + 1)) (bvs (HD ++ ([q0, q1, q2, q3, q4].take (3 + 1)).flatMap two8)) from by
    have hx : HD ++ ([q0, q1, q2, q3, q4].take (3 + 1)).flatMap two8 = (HD ++ ([q0, q1, q2, q3, q4].take 3).flatMap two8) ++ two8 q3 := by simp
    rw [hx]; exact S7)
   obtain ⟨V7, c7, rfl⟩ := slc_val S7.out
   clear o7
   go_wp2_with fail
   go_roundw
   case rel => exact ⟨3 + 1, by omega, by first | rfl | go_num, S7.out, C7, O7.out, F7⟩
   case measure => simp [intOf]
  ·have K := Lib.hid (two_any _ 12 _ S q4 (by omega) (by omega))
   have OO := Lib.hid O
   have IX := Lib.hid (show (Instr.index 185 (.agg #[.int .i64 (q0 : Int), .int .i64 (q1 : Int), .int .i64 (q2 : Int), .int .i64 (q3 : Int), .int .i64 (q4 : Int)]) (.int .i64 4)).run Tryz.prog wr = .ok (.int .i64 (q4 : Int)) wr from idx5 q0 q1 q2 q3 q4 wr 4 _ rfl)
   clear S O
   go_wp2_with fail
   rw [IX.out]
   go_wp2_with fail
   refine K.out.mono ?_
   rintro r w7 ⟨⟨v7, rfl, S7, F7⟩, o7⟩
   have O7 := Lib.hid (OO.out.trans (o7.below_of OO.out.size (fun x hx => by have := F.out x hx; omega)))
   have C7 := Lib.hid (C.out.only o7 (fun hx => by have := F.out _ hx; omega))
   have F7 := Lib.hid (show ∀ x ∈ ownB v7, w.heap.size + 1 ≤ x from fun x hx => (F7 x hx).elim (F.out x) (fun h => by have := C.out.lt; omega))
   have S7 := Lib.hid (show Slc w7 5 1 v7 (4 + 2 * (4 + 1)) (bvs (HD ++ ([q0, q1, q2, q3, q4].take (4 + 1)).flatMap two8)) from by
    have hx : HD ++ ([q0, q1, q2, q3, q4].take (4 + 1)).flatMap two8 = (HD ++ ([q0, q1, q2, q3, q4].take 4).flatMap two8) ++ two8 q4 := by simp
    rw [hx]; exact S7)
   obtain ⟨V7, c7, rfl⟩ := slc_val S7.out
   clear o7
   go_wp2_with fail
   go_roundw
   case rel => exact ⟨4 + 1, by omega, by first | rfl | go_num, S7.out, C7, O7.out, F7⟩
   case measure => simp [intOf]
  ·have OO := Lib.hid O
   have SS := Lib.hid (show Slc wr 5 1 (.slice VA 14 vc) 14 (bvs (HD ++ [q0, q1, q2, q3, q4].flatMap two8)) from S)
   clear S O
   go_wp2_with fail
   obtain ⟨M, hM⟩ : ∃ M, HD ++ [q0, q1, q2, q3, q4].flatMap two8 = M := ⟨_, rfl⟩
   have HM := Lib.hid (show M ++ List.replicate 30 0 = midL lg l from by
    unfold midL
    rw [← hM, ← HHD.out, HQQ.out, HLL.out, List.nil_append])
   rw [hM] at SS
   clear hM
   go_loopw [4] (fun sv wx => ∃ j : Nat, j ≤ 30 ∧ Slc wx 5 1 sv (14 + j) (bvs (M ++ List.replicate j 0)) ∧ Hid (Blk wx w.heap.size 125 #[.int .i64 ep, .int .i64 (lg : Int), .slice A n c]) ∧ Below w.heap.size w wx ∧ Hid (∀ x ∈ ownB sv, w.heap.size + 1 ≤ x)) (fun sv _ => 44 - lenV sv)
   case atStart => exact ⟨0, by omega, by simpa using SS.out, C, OO.out, F⟩
   case round =>
    obtain ⟨j, hj, S, C, O, F⟩ := hrel
    obtain ⟨VB, vb, rfl⟩ := slc_val S
    by_cases h : j < 30
    ·have h1 : (14 : Int) + (j : Int) < 44 := by omega
     have h2 : 14 + j < 44 := by omega
     have h3 : ((14 + j : Nat) : Int) < 44 := by omega
     obtain ⟨v8, w8, ea, S8, o8, f8⟩ := append_one (P := Tryz.prog) S 141 141 (.int .u8 0) 1 Tryz.underlying141 Crc.info_u8 rfl (.int .u8 0) rfl (by unfold maxLen; omega) (by omega)
     obtain ⟨V8, c8, rfl⟩ := slc_val S8
     have EA := Lib.hid ea
     have S9 := Lib.hid (show Slc w8 5 1 (.slice V8 (14 + (j + 1)) c8) (14 + (j + 1)) (bvs (M ++ List.replicate (j + 1) 0)) from by
      rw [List.replicate_succ', ← List.append_assoc, bvs_append]
      exact S8)
     have O8 := Lib.hid (O.trans (o8.below_of O.size (fun x hx => by have := F.out x hx; omega)))
     have C8 := Lib.hid (C.out.only o8 (fun hx => by have := F.out _ hx; omega))
     have F8 := Lib.hid (show ∀ x ∈ ownB (.slice V8 (14 + (j + 1)) c8), w.heap.size + 1 ≤ x from fun x hx => (f8 x hx).elim (F.out x) (fun h => by have := C.out.lt; omega))
     clear ea S8 o8 f8 S O
     go_wp2_with fail
     rw [EA.out]
     go_wp2_with fail
     go_roundw
     case rel => exact ⟨_, _, _, _, _, _, _, ⟨j + 1, by omega, S9.out, C8, O8.out, F8⟩, rfl⟩
     case measure => simp [lenV]; omega
    ·obtain rfl : j = 30 := by omega
     have h2 : ¬ ((14 + 30 : Nat) : Int) < 44 := by omega
     rw [HM.out] at S
     obtain ⟨gB, cap, rest, hv, BB, _, _⟩ := S.form (by omega) (by omega)
     simp only [Value.slice.injEq, true_and] at hv
     obtain ⟨rfl, rfl⟩ := hv
     have ST := Lib.hid (run_string_of (P := Tryz.prog) wr 141 9 5 Tryz.underlying141 Tryz.underlying5 Tryz.underlying9 ⟨gB, 0, none⟩ 44 vb (midL lg l) (by have := S.1; simpa using this) (cells_at BB 0 _ (by intro j u hu; rw [Nat.zero_add]; exact List.getElem?_append_left (List.getElem?_eq_some_iff.1 hu).1 ▸ hu)))
     have hml : (midL lg l).length = 44 := by have := S.1; simpa using this
     obtain ⟨T, hT⟩ : ∃ T : ByteArray, (⟨(midL lg l).toArray⟩ : ByteArray) = T := ⟨_, rfl⟩
     have hTz : T.size = 44 := by rw [← hT]; show (midL lg l).toArray.size = 44; simpa using hml
     have hTl : T.data.toList = midL lg l := by rw [← hT]
     rw [hT] at ST
     have KY := Lib.hid (Crc.lay_any T wr (by omega))
     rw [hTl] at KY
     have OO9 := Lib.hid O
     have hlen48 : (Crc.layF (midL lg l)).length = 48 := by unfold Crc.layF; simp [Crc.fourL, hml]
     have hpl : (packI ep).length = 8 := by unfold packI be8; rw [beK_length]
     obtain ⟨L, hL⟩ : ∃ L : ByteArray, (⟨(Crc.layF (midL lg l)).toArray⟩ : ByteArray) = L := ⟨_, rfl⟩
     obtain ⟨PI, hPI⟩ : ∃ L : ByteArray, (⟨(packI ep).toArray⟩ : ByteArray) = L := ⟨_, rfl⟩
     have hLz : L.size = 48 := by rw [← hL]; show (Crc.layF (midL lg l)).toArray.size = 48; simpa using hlen48
     have hPz : PI.size = 8 := by rw [← hPI]; show (packI ep).toArray.size = 8; simpa using hpl
     have HRES := Lib.hid (show PI ++ L ++ PI = (⟨(rootL ep lg l).toArray⟩ : ByteArray) from by
      rw [← hL, ← hPI]
      apply ByteArray.ext
      apply Array.toList_inj.1
      unfold rootL
      simp)
     rw [hL] at KY
     have KI := Lib.hid (fun w => I_any ep (by have := HR.out.1; omega) HR.out.2.1 w)
     rw [hPI] at KI
     clear S O BB hT hTl hL hPI hml hTz
     go_wp2_with fail
     rw [ST.out]
     go_wp2_with fail
     refine KY.out.mono ?_
     rintro e w9 ⟨rfl, hb9⟩
     have O9 := Lib.hid (bstep OO9.out hb9)
     have B9 := Lib.hid (C.out.below hb9 C.out.lt)
     clear hb9
     go_wp2_with fail
     have HK := Lib.hid (show ∀ W', Below w9.heap.size w9 W' → W'.cell? ⟨w.heap.size, 0, none⟩ = some (.int .i64 ep) from fun W' ho => (B9.out.below ho B9.out.lt).cell_some (i := 0) rfl)
     have OD := Lib.hid ((Below.refl w9.heap.size w9).drew)
     have z1 : ¬ 9223372036854775807 < PI.size + L.size := by omega
     have z2 : ¬ 9223372036854775807 < PI.size + L.size + PI.size := by omega
     clear hLz hPz
     refine wp_region_held_drew (S := fun W' => W'.cell? ⟨w.heap.size, 0, none⟩ = some (.int .i64 ep)) (by kernel_rfl) (HK.out _ OD.out) (fun hHeld => ?_)
     refine zpl [(0,40),(1,41),(3,43),(5,45),(6,46)] ?_
     iterate 5 (refine ztp (v := ?_) rfl (by kernel_rfl) (fun _ _ _ h => h) (by assumption) ?_ ?_; rotate_left; (·intro w hS; (try dsimp only at hS); go_simp; try with_reducible rfl); try simp only [Act.put, pa, pb, pc])
     refine zpe ?_
     refine wpAnyH_ready (rs := [2]) (by kernel_rfl) (by simp) ?_
     refine AllReadyH.cons (o := ⟨some 42, _, _, _, _, _⟩) rfl (fun K hK => ?_) AllReadyH.nil
     go_simp
     go_at_call 160
     refine (KI.out _).mono ?_
     rintro r wa ⟨rfl, hba⟩
     have Pa := Lib.hid (bstep OD.out hba)
     go_simp
     refine hK.out _ _ (HK.out _ Pa.out) (fun hHeld => ?_)
     try simp only [Act.put, pa, pb, pc]
     refine zpl [(4,44)] ?_
     iterate 1 (refine ztp (v := ?_) rfl (by kernel_rfl) (fun _ _ _ h => h) (by assumption) ?_ ?_; rotate_left; (·intro w hS; (try dsimp only at hS); go_simp; try with_reducible rfl); try simp only [Act.put, pa, pb, pc])
     refine zpe ?_
     refine wpAnyH_ready (rs := [7]) (by kernel_rfl) (by simp) ?_
     refine AllReadyH.cons (o := ⟨some 47, _, _, _, _, _⟩) rfl (fun K hK => ?_) AllReadyH.nil
     go_simp
     go_at_call 160
     refine (KI.out _).mono ?_
     rintro r wb ⟨rfl, hbb⟩
     have Pb := Lib.hid (bstep Pa.out hbb)
     go_simp
     refine hK.out _ _ (HK.out _ Pb.out) (fun hHeld => ?_)
     try simp only [Act.put, pa, pb, pc]
     refine zpl [(8,48),(9,2),(10,3)] ?_
     iterate 3 (refine ztp (v := ?_) rfl (by kernel_rfl) (fun _ _ _ h => h) (by assumption) ?_ ?_; rotate_left; (·intro w hS; (try dsimp only at hS); go_simp; try with_reducible rfl); try simp only [Act.put, pa, pb, pc])
     refine zpe ?_
     refine wpAnyH_done (by kernel_rfl) ?_ _
     have OF := Lib.hid (bstep O9.out Pb.out)
     go_wp2_with fail
     go_ret2
     exact ⟨by rw [← HRES.out]; rfl, OF.out⟩
end Go.Proofs.YtbelcgjbhpjnpaaGreat.Rt
