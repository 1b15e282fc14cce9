/- nodes: Find, Below. -/
import Derived.Test.YticehnnbjbliaabNd11
namespace Go.Proofs.Yticehnnbjbliaab.Nd
open Go.RowKit Sl
attribute [local go_sem ↓] Go.wp_at_zero Go.wp_at_succ
set_option maxHeartbeats 2000000 in
theorem find_any {w : World} (leaf : Bool) (A : Option Addr) (n c : Nat) (l : List E) (key : ByteArray) (h : Ents w A n l) (hn : n ≤ 1000000) :
    Calls Try.prog 22 #[nodeV leaf A n c, .string key] w fun r w' => (∃ k b, r = .returned (.tuple #[.int .i64 (k : Nat), .bool b]) ∧ PlaceAt l key k ∧ (b = true ↔ HasAt l key k)) ∧ Below w.heap.size w w' := by
  have O0 := (Below.refl w.heap.size w).alloc (Nat.le_refl _) (.cells #[.bool leaf, .slice A n c] 32)
  have B0 := Blk.new w 32 #[.bool leaf, .slice A n c]
  have c1 : (w.alloc (.cells #[.bool leaf, .slice A n c] 32)).cell? ⟨w.heap.size, 1, none⟩ = some (.slice A n c) := B0.cell_some (i := 1) rfl
  have K := Lib.hid (bsearch_any (w := w.alloc (.cells #[.bool leaf, .slice A n c] 32)) A n c l key (h.below O0) hn)
  have O0 := Lib.hid O0
  clear h B0
  unfold nodeV
  go_enter Try.func22, Try.ntmps22
  go_wp2_with fail
  refine K.out.mono ?_
  rintro r w1 ⟨⟨k, b, rfl, hp, hh⟩, hb1⟩
  have HP := Lib.hid hp
  have HH := Lib.hid hh
  have O1 := Lib.hid (bstep O0.out hb1)
  clear hp hh hb1
  go_wp2_with fail
  go_ret2
  exact ⟨⟨k, b, rfl, HP.out, HH.out⟩, O1.out⟩
set_option maxHeartbeats 2000000 in
theorem below_any {w : World} (leaf : Bool) (A : Option Addr) (n c : Nat) (l : List E) (key : ByteArray) (h : Ents w A n l) (hn : n ≤ 1000000) :
    Calls Try.prog 23 #[nodeV leaf A n c, .string key] w fun r w' => (∃ m : Nat, r = .returned (.int .i64 (m : Nat)) ∧ ∃ k, PlaceAt l key k ∧ ((HasAt l key k ∧ m = k) ∨ (¬ HasAt l key k ∧ m = k - 1))) ∧ Below w.heap.size w w' := by
  have O0 := (Below.refl w.heap.size w).alloc (Nat.le_refl _) (.cells #[.bool leaf, .slice A n c] 32)
  have B0 := Blk.new w 32 #[.bool leaf, .slice A n c]
  have c0 : (w.alloc (.cells #[.bool leaf, .slice A n c] 32)).cell? ⟨w.heap.size, 0, none⟩ = some (.bool leaf) := B0.cell_some (i := 0) rfl
  have c1 : (w.alloc (.cells #[.bool leaf, .slice A n c] 32)).cell? ⟨w.heap.size, 1, none⟩ = some (.slice A n c) := B0.cell_some (i := 1) rfl
  have K := Lib.hid (find_any (w := w.alloc (.cells #[.bool leaf, .slice A n c] 32)) leaf A n c l key (h.below O0) hn)
  have O0 := Lib.hid O0
  have HL := Lib.hid h.1
  clear h B0
  unfold nodeV at *
  go_enter Try.func23, Try.ntmps23
  go_wp2_with fail
  refine K.out.mono ?_
  rintro r w1 ⟨⟨k, b, rfl, hp, hh⟩, hb1⟩
  have HP := Lib.hid hp
  have HH := Lib.hid hh
  have O1 := Lib.hid (bstep O0.out hb1)
  have hk : k ≤ 1000000 := by have := hp.1; have := HL.out; omega
  clear hp hh hb1
  cases b
  · rcases (show k = 0 ∨ ∃ j, k = j + 1 from by cases k; exact .inl rfl; exact .inr ⟨_, rfl⟩) with rfl | ⟨j, rfl⟩
    · go_wp2_with fail
      go_ret
      exact ⟨⟨0, rfl, 0, HP.out, .inr ⟨fun hx => absurd (HH.out.2 hx) (by decide), rfl⟩⟩, O1.out⟩
    · have e1 : IntKind.i64.wrap ((j : Int) + 1 - 1) = (j : Int) := by rw [Int.add_sub_cancel]; exact IntWalk.i64_in _ (by omega)
      have e2 : IntKind.i64.wrap (j : Int) = (j : Int) := IntWalk.i64_in _ (by omega)
      have e3 : max (j : Int) 0 = (j : Int) := by omega
      have e4 : ¬ (j : Int) < 0 := by omega
      go_wp2_with fail
      go_ret
      refine ⟨⟨j, ?_, j + 1, HP.out, .inr ⟨fun hx => absurd (HH.out.2 hx) (by decide), rfl⟩⟩, O1.out⟩
      first | rfl | simp [e3]
  · have e3 : max (k : Int) 0 = (k : Int) := by omega
    have e4 : ¬ (k : Int) < 0 := by omega
    go_wp2_with fail
    go_ret
    refine ⟨⟨k, ?_, k, HP.out, .inl ⟨HH.out.1 (by trivial), rfl⟩⟩, O1.out⟩
    first | rfl | simp [e3]
end Go.Proofs.Yticehnnbjbliaab.Nd
