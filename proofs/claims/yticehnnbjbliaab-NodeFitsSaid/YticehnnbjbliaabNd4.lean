/- nodes: how many bytes entries count for. -/
import Derived.Test.YticehnnbjbliaabNd3
namespace Go.Proofs.Yticehnnbjbliaab.Nd
open Go.RowKit Sl
def bytesF (l : List E) : Nat := (l.map fun e => e.key.size + e.val.size + 7).sum
theorem bytesF_snoc (l : List E) (i : Nat) (e : E) (h : l[i]? = some e) : bytesF (l.take (i + 1)) = bytesF (l.take i) + (e.key.size + e.val.size + 7) := by
  unfold bytesF
  rw [List.take_add_one, h]; simp
theorem bytesF_take (l : List E) (i : Nat) : bytesF (l.take i) ≤ bytesF l := by
  have : bytesF l = bytesF (l.take i) + bytesF (l.drop i) := by
    unfold bytesF
    rw [← List.sum_append, ← List.map_append, List.take_append_drop]
  omega
set_option maxRecDepth 100000 in
set_option maxHeartbeats 2000000 in
theorem bytes_any {w : World} (A : Option Addr) (n c : Nat) (l : List E) (h : Ents w A n l) (hn : n ≤ 9223372036854775807) (hb : bytesF l ≤ 1000000) :
    Calls Try.prog 36 #[.slice A n c] w fun r w' => r = .returned (.int .i64 (bytesF l : Nat)) ∧ Below w.heap.size w w' := by
  have H0 := Lib.hid h
  have hl := Lib.hid h.1
  have hB := Lib.hid hb
  clear h hb
  go_enter Try.func36, Try.ntmps36
  go_wp2_with fail
  go_loopw [3, 8] (fun sv iv wr => ∃ i : Nat, i ≤ n ∧ iv = .int .i64 i ∧ sv = .int .i64 (bytesF (l.take i) : Nat) ∧ Below w.heap.size w wr) (fun _ iv _ => n - (intOf iv).toNat)
  case atStart => exact ⟨0, by omega, rfl, by simp [bytesF], Below.refl _ _⟩
  case round =>
    obtain ⟨i, hi, rfl, rfl, hbw⟩ := hrel
    by_cases h : i < n
    · obtain ⟨ad, e, rfl, he, AT⟩ := (H0.out.below hbw).at i h
      have a0 := AT.c0
      have a1 := AT.c1
      have a2 := AT.c2
      have hs := bytesF_snoc l i e he
      have ht := bytesF_take l (i + 1)
      have hb := hB.out
      have HS := Lib.hid hs
      have s1 : IntKind.i64.wrap ((e.key.size : Int) + (e.val.size : Int)) = (e.key.size : Int) + (e.val.size : Int) := IntWalk.i64_in _ (by omega)
      have s2 : IntKind.i64.wrap ((e.key.size : Int) + (e.val.size : Int) + 7) = (e.key.size : Int) + (e.val.size : Int) + 7 := IntWalk.i64_in _ (by omega)
      have s3 : IntKind.i64.wrap ((bytesF (l.take i) : Int) + ((e.key.size : Int) + (e.val.size : Int) + 7)) = (bytesF (l.take i) : Int) + ((e.key.size : Int) + (e.val.size : Int) + 7) := IntWalk.i64_in _ (by omega)
      have HB2 := Lib.hid (bstep hbw (belowAlloc (Below.refl wr.heap.size wr) (.cells #[.string e.key, .string e.val, .int .i64 e.far] 56)))
      clear AT hs ht hb hbw
      go_wp2_with fail
      refine ⟨⟨i + 1, by omega, rfl, ?_, HB2.out⟩, by simp [intOf]; omega⟩
      rw [HS.out]; simp
    · obtain rfl : i = n := by omega
      have HB2 := Lib.hid hbw
      clear hbw
      go_wp2_with fail
      go_ret
      refine ⟨?_, HB2.out⟩
      have := hl.out
      rw [List.take_of_length_le (by omega)]; rfl
end Go.Proofs.Yticehnnbjbliaab.Nd
