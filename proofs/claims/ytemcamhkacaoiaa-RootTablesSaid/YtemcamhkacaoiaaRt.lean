/- roots: numbers, and what a root is. -/
import Derived.Test.YtemcamhkacaoiaaPk2
import Derived.Deep.RegionHeld3
import Derived.Deep.DrawnRows
import Derived.Laws.ResultCell
namespace Go.Proofs.Ytemcamhkacaoiaa.Rt
open Go.RowKit Pk
attribute [local go_sem ↓] Go.wp_at_zero Go.wp_at_succ
theorem asz (w : World) (o : Obj) : (w.alloc o).heap.size = w.heap.size + 1 := by simp
theorem belowAlloc {W w1 : World} (h : Below W.heap.size W w1) (o : Obj) : Below W.heap.size W (w1.alloc o) := h.alloc h.size o
theorem bool_of (p : Prop) : ∃ b : Bool, b = true ↔ p := by
  by_cases h : p
  · exact ⟨true, by simp [h]⟩
  · exact ⟨false, by simp [h]⟩
/-- a slice of numbers, whosever -/
def IntsAt (w : World) (A : Option Addr) (n : Nat) (l : List Int) : Prop := l.length = n ∧ ∀ k x, l[k]? = some x → ∃ ad, A = some ad ∧ w.cell? (ad.add k) = some (.int .i64 x)
theorem IntsAt.below {w w' : World} {A : Option Addr} {n : Nat} {l : List Int} (h : IntsAt w A n l) (hb : Below w.heap.size w w') : IntsAt w' A n l := by
  refine ⟨h.1, fun k x hx => ?_⟩
  obtain ⟨ad, e1, h1⟩ := h.2 k x hx
  exact ⟨ad, e1, (hb.cell (by rw [block_of_add]; exact cell_lt h1)).trans h1⟩
theorem IntsAt.at {w : World} {A : Option Addr} {n : Nat} {l : List Int} (h : IntsAt w A n l) (k : Nat) (hk : k < n) : ∃ ad x, A = some ad ∧ l[k]? = some x ∧ w.cell? (ad.add k) = some (.int .i64 x) := by
  have hl := h.1
  obtain ⟨ad, e1, h1⟩ := h.2 k l[k] (List.getElem?_eq_getElem (by omega))
  exact ⟨ad, l[k], e1, List.getElem?_eq_getElem (by omega), h1⟩
theorem IntsAt.take {w : World} {A : Option Addr} {n : Nat} {l : List Int} (h : IntsAt w A n l) (k : Nat) (hk : k ≤ n) : IntsAt w A k (l.take k) := by
  refine ⟨by rw [List.length_take]; have := h.1; omega, fun j x hx => ?_⟩
  rw [List.getElem?_take] at hx
  split at hx
  · exact h.2 j x hx
  · cases hx
def needF (n : Int) : Int := (max n 0 + 115) / 116
def rootV (a b : Int) (A : Option Addr) (n c : Nat) : Value := .agg #[.int .i64 a, .int .i64 b, .slice A n c]
/-- a root may be -/
def rightR (ep lg : Int) (l : List Int) : Prop := 1 ≤ ep ∧ ep ≤ 1099511627776 ∧ 0 ≤ lg ∧ lg ≤ 512 ∧ (l.length : Int) = needF lg ∧ ∀ i x, l[i]? = some x → 0 ≤ x ∧ x ≤ 1023 ∧ x ∉ l.take i
set_option maxRecDepth 100000 in
set_option maxHeartbeats 1000000 in
theorem need_any (n : Int) (h : n ≤ 1000000) (w : World) :
    Calls Try.prog 11 #[.int .i64 n] w fun e w' => e = .returned (.int .i64 (needF n)) ∧ Below w.heap.size w w' := by
  unfold needF
  obtain ⟨m, hm⟩ := Int.eq_ofNat_of_zero_le (show 0 ≤ max n 0 by omega)
  rw [hm]
  have hm2 : m ≤ 1000000 := by omega
  have e1 : IntKind.i64.wrap ((m : Int) + 116) = (m : Int) + 116 := IntWalk.i64_in _ (by omega)
  have e2 : IntKind.i64.wrap ((m : Int) + 116 - 1) = (m : Int) + 115 := by rw [show (m : Int) + 116 - 1 = (m : Int) + 115 by omega]; exact IntWalk.i64_in _ (by omega)
  have e3 : IntKind.i64.wrap (((m : Int) + 115).tdiv 116) = ((m : Int) + 115) / 116 := by rw [Int.tdiv_eq_ediv_of_nonneg (by omega)]; exact IntWalk.i64_in _ (by omega)
  have e4 : IntKind.i64.wrap ((m : Int) + 115) = (m : Int) + 115 := IntWalk.i64_in _ (by omega)
  go_enter Try.func11, Try.ntmps11
  go_wp2_with fail
  all_goals
    go_ret
    refine ⟨?_, Below.refl _ _⟩
    first | (simp; done) | (simp; omega)
set_option maxRecDepth 100000 in
set_option maxHeartbeats 2000000 in
theorem index_any {w : World} (A : Option Addr) (n c : Nat) (l : List Int) (x : Int) (h : IntsAt w A n l) (hn : n ≤ 1000000) :
    Calls Try.prog 28 #[.slice A n c, .int .i64 x] w fun e w' => (∃ k : Int, e = .returned (.int .i64 k) ∧ (0 ≤ k ↔ x ∈ l)) ∧ w' = w := by
  have H0 := Lib.hid h
  go_enter Try.func28, Try.ntmps28
  go_wp2_with fail
  go_loopw [8] (fun iv wr => ∃ i : Nat, i ≤ n ∧ iv = .int .i64 i ∧ Hid (∀ j y, j < i → l[j]? = some y → y ≠ x) ∧ wr = w) (fun iv _ => n - (intOf iv).toNat)
  case atStart => exact ⟨0, Nat.zero_le _, rfl, Lib.hid (fun j y h => absurd h (Nat.not_lt_zero _)), rfl⟩
  case round =>
    obtain ⟨i, hi, rfl, HX, rfl⟩ := hrel
    by_cases h' : i < n
    · obtain ⟨ad, y, rfl, hy, ck⟩ := H0.out.at i h'
      have hiI : (i : Int) < (n : Int) := by omega
      have HY := Lib.hid hy
      clear hy h
      by_cases hxy : x = y
      · subst hxy
        go_wp2_with fail
        go_ret
        refine ⟨⟨(i : Int), rfl, ?_⟩, rfl⟩
        exact ⟨fun _ => List.mem_of_getElem? HY.out, fun _ => by omega⟩
      · have hxy2 : (x == y) = false := by simpa using hxy
        have HX2 := Lib.hid (show ∀ j z, j < i + 1 → l[j]? = some z → z ≠ x from fun j z hj hz => by
          rcases Nat.lt_succ_iff_lt_or_eq.1 hj with h1 | rfl
          · exact HX.out j z h1 hz
          · rw [HY.out] at hz; injection hz with hz; subst hz; exact fun e => hxy e.symm)
        go_wp2_with fail
        go_roundw
        case rel => exact ⟨i + 1, by omega, by go_num, HX2, by first | rfl | trivial⟩
        case measure => simp [intOf]; omega
    · obtain rfl : i = n := by omega
      clear h
      go_wp2_with fail
      go_ret
      refine ⟨⟨-1, rfl, ?_⟩, rfl⟩
      constructor
      · intro h1; omega
      · intro hm
        exfalso
        obtain ⟨j, hj, hjx⟩ := List.getElem_of_mem hm
        exact HX.out j _ (by have := H0.out.1; omega) (List.getElem?_eq_getElem hj) hjx
set_option maxHeartbeats 1000000 in
theorem contains_any {w : World} (A : Option Addr) (n c : Nat) (l : List Int) (x : Int) (h : IntsAt w A n l) (hn : n ≤ 1000000) (b : Bool) (hb : b = true ↔ x ∈ l) :
    Calls Try.prog 23 #[.slice A n c, .int .i64 x] w fun e w' => e = .returned (.bool b) ∧ w' = w := by
  have K := Lib.hid (index_any A n c l x h hn)
  have HB := Lib.hid hb
  clear h hb
  go_enter Try.func23, Try.ntmps23
  go_wp2_with fail
  refine K.out.mono ?_
  rintro e w1 ⟨⟨k, rfl, hk⟩, rfl⟩
  have HK := Lib.hid hk
  clear hk
  by_cases h0 : 0 ≤ k
  · have h1 : ¬ k < 0 := by omega
    go_wp2_with fail
    go_ret
    refine ⟨?_, rfl⟩
    rw [HB.out.2 (HK.out.1 h0)]; first | rfl | simp
  · have h1 : k < 0 := by omega
    go_wp2_with fail
    go_ret
    refine ⟨?_, rfl⟩
    cases b
    · first | rfl | (simp; omega)
    · exact absurd (HK.out.2 (HB.out.1 rfl)) (by omega)
end Go.Proofs.Ytemcamhkacaoiaa.Rt
