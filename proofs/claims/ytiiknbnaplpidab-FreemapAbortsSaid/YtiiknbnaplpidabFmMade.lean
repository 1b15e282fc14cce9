/- both maps side by side: made. -/
import Derived.Test.YtiiknbnaplpidabFmDo2
import Derived.Deep.SlicePairs
namespace Go.Proofs.Ytiiknbnaplpidab.Fm
open Go.RowKit Go.Deep

/-- a []struct of two numbers that came in -/
theorem pairs_view {H : Type} {enc : TypeId × Value → H} {P : Program} {W : World} {base : Nat} {t e : TypeId} {f0 f1 : Field} {v : Value} {d : DataW H} {ps : List MemPlace} (ht : P.underlying t = some (.slice e)) (he : P.underlying e = some (.struct #[f0, f1]))
    (ce : P.cellsOf e = 2) (o0 : f0.offset = 0) (o1 : f1.offset = 1) (c0 : P.cellsOf f0.type = 1) (c1 : P.cellsOf f1.type = 1) (t0 : P.underlying f0.type = some (.int .i64)) (t1 : P.underlying f1.type = some (.int .i64))
    (hok : Value.okWide P W .any base t v) (h : DataW.Trod enc P W 0 (fun _ => true) true t v d ps) :
    ∃ (A : Option Addr) (n c : Nat) (K I : Nat → Int), v = .slice A n c ∧ n ≤ maxLen ∧ ∀ k, k < n → ∃ ad, A = some ad ∧ W.cell? (ad.add (k * 2)) = some (.int .i64 (K k)) ∧ W.cell? (ad.add (k * 2 + 1)) = some (.int .i64 (I k)) := by
  obtain ⟨a0, len, cap, rfl⟩ := Go.WideShapes.okWide_slice ht hok
  obtain ⟨fuel, hf⟩ := h
  rcases open_slice_pairs ht he ce o0 o1 c0 c1 hf with ⟨hcs, _⟩ | ⟨a, len', cap', m, n, V0, V1, D0, D1, P0, P1, hcs, _, hl, hm, hmm, _, hall⟩
  · simp [Value.cells] at hcs
    obtain ⟨rfl, rfl, rfl⟩ := hcs
    exact ⟨none, 0, 0, fun _ => 0, fun _ => 0, rfl, Nat.zero_le _, fun k hk => absurd hk (by omega)⟩
  · simp [Value.cells] at hcs
    obtain ⟨rfl, rfl, rfl⟩ := hcs
    simp at hmm
    refine ⟨some a, len, cap, fun k => intOf (V0 k), fun k => intOf (V1 k), rfl, by omega, fun k hk => ⟨a, rfl, ?_, ?_⟩⟩
    · obtain ⟨h0, _, h2, _⟩ := hall k (by omega)
      obtain ⟨x, hx, _⟩ := DataW.trod_int t0 h2
      simp at hx
      show _ = some (Value.int .i64 (intOf (V0 k)))
      rw [h0, hx]; rfl
    · obtain ⟨_, h1, _, h3⟩ := hall k (by omega)
      obtain ⟨x, hx, _⟩ := DataW.trod_int t1 h3
      simp at hx
      show _ = some (Value.int .i64 (intOf (V1 k)))
      rw [h1, hx]; rfl
/-- what a walk is handed of a list of calls: its cells -/
def Acts (w : World) (A : Option Addr) (n : Nat) (K I : Nat → Int) : Prop := ∀ k, k < n → ∃ ad, A = some ad ∧ w.cell? (ad.add (k * 2)) = some (.int .i64 (K k)) ∧ w.cell? ⟨(ad.add (k * 2)).block, (ad.add (k * 2)).off + 1, none⟩ = some (.int .i64 (I k))
theorem Acts.of {w : World} {A : Option Addr} {n : Nat} {K I : Nat → Int} (h : ∀ k, k < n → ∃ ad, A = some ad ∧ w.cell? (ad.add (k * 2)) = some (.int .i64 (K k)) ∧ w.cell? (ad.add (k * 2 + 1)) = some (.int .i64 (I k))) : Acts w A n K I := by
  intro k hk
  obtain ⟨ad, e, h0, h1⟩ := h k hk
  rw [← add_of_add] at h1
  exact ⟨ad, e, h0, h1⟩
theorem Acts.below {w w' : World} {A : Option Addr} {n : Nat} {K I : Nat → Int} (h : Acts w A n K I) (hb : Below w.heap.size w w') : Acts w' A n K I := by
  intro k hk
  obtain ⟨ad, rfl, h0, h1⟩ := h k hk
  have hlt := cell_lt' h0
  exact ⟨ad, rfl, (hb.cell hlt).trans h0, (hb.cell (p := ⟨(ad.add (k * 2)).block, (ad.add (k * 2)).off + 1, none⟩) hlt).trans h1⟩

def OkL (l : List Int) : Prop := ∀ x ∈ l, x = 0 ∨ x = 1 ∨ x = 2 ∨ x = 3
theorem OkL.set_ {l : List Int} (h : OkL l) (k : Nat) (x : Int) (hx : x = 0 ∨ x = 1 ∨ x = 2 ∨ x = 3) : OkL (l.set k x) := by
  intro y hy
  rcases List.mem_or_eq_of_mem_set hy with h1 | rfl
  · exact h y h1
  · exact hx
theorem OkL.turn {l : List Int} (h : OkL l) (a b : Int) (ha : a = 0 ∨ a = 1) (hb : b = 0 ∨ b = 1) : OkL (turnF a b l) := by
  intro y hy
  obtain ⟨x, hx, rfl⟩ := List.mem_map.1 hy
  have := h x hx
  unfold turnOne
  split
  · omega
  · split <;> omega
theorem doF_ok {l : List Int} (h : OkL l) (kind i : Int) : OkL (doF l kind i) := by
  unfold doF useF leaveF takeF
  repeat' split
  all_goals first
    | exact h
    | exact h.set_ _ _ (by simp)
    | exact h.turn _ _ (by simp) (by simp)
theorem doF_length (l : List Int) (kind i : Int) : (doF l kind i).length = l.length := by
  unfold doF useF leaveF takeF
  repeat' split
  all_goals simp [turnF]

/-- what made hands back -/
structure Made (w w' : World) (b g b' : Nat) (v : Value) (l : List Int) (n : Nat) : Prop where
  both : Both w' b g b' v l
  below : Below w.heap.size w w'
  len : l.length = n
  ok : OkL l
  fb : w.heap.size ≤ b
  fg : w.heap.size ≤ g
  fb' : w.heap.size ≤ b'

set_option maxRecDepth 100000 in
set_option maxHeartbeats 1000000 in
theorem made_no {w : World} (n : Int) (A : Option Addr) (m c : Nat) (h : n < 0 ∨ 1024 < n) :
    Calls Try.prog 8 #[.int .i64 n, .slice A m c] w fun e w' => e = .returned (.tuple #[.pointer none, .pointer none, .bool true]) ∧ w = w' := by
  have K := Lib.hid (new_no n w h)
  have h' : n < 0 ∨ (¬ n < 0 ∧ 1024 < n) := by omega
  clear h
  rcases h' with h | ⟨h, h1⟩
  all_goals
    go_enter Try.func8, Try.ntmps8
    go_wp2_with fail
    refine K.out.mono ?_
    rintro e w1 ⟨rfl, rfl⟩
    go_wp2_with fail
    go_ret3
    exact ⟨rfl, rfl⟩

set_option maxRecDepth 100000 in
set_option maxHeartbeats 4000000 in
theorem made_yes {w : World} (n : Nat) (A : Option Addr) (m c : Nat) (K I : Nat → Int) (hacts : Acts w A m K I) (hm : m ≤ 9223372036854775807) (hn : n ≤ 1024) :
    Calls Try.prog 8 #[.int .i64 n, .slice A m c] w fun e w' => ∃ b g b' v l, e = .returned (.tuple #[mp b, mp b', .bool true]) ∧ Made w w' b g b' v l n := by
  have KN := Lib.hid (new_yes n w hn)
  have HA := Lib.hid hacts
  clear hacts
  have hmk : ∀ w' : World, (Instr.makeSlice 28 (.int .i64 n) (.int .i64 n)).run Try.prog w' = .ok (.slice (some ⟨w'.heap.size, 0, none⟩) n n) (w'.alloc (.cells (madeCells #[.int .i64 0] n) 3)) := fun w' => by
    obtain ⟨i0, hi, hz0, hz1, hz2⟩ := info_parts info_int
    have h := run_make (P := Try.prog) w' 28 3 i0 (.int .i64 0) Try.underlying28 hi hz0 .i64 .i64 n n (by omega) (Int.le_refl _) (by rw [hz2]; omega) (by omega)
    simpa [hz1, Value.cells] using h
  go_enter Try.func8, Try.ntmps8
  go_wp2_with fail
  refine KN.out.mono ?_
  rintro e w1 ⟨b, g, rfl, M, hb1, fb, fg⟩
  unfold mp
  go_wp2_with fail
  clear hmk
  have hrep : ints (List.replicate n 0) = List.replicate n (.int .i64 0) := by simp [ints]
  have B1 : Blk ((w1.alloc (.cells (madeCells #[.int .i64 0] n) 3)).alloc (.cells #[.slice (some ⟨w1.heap.size, 0, none⟩) n n] 42)) w1.heap.size 3 (madeCells #[.int .i64 0] n) := (Blk.new _ _ _).alloc _
  have B2 := Blk.new (w1.alloc (.cells (madeCells #[.int .i64 0] n) 3)) 42 #[.slice (some ⟨w1.heap.size, 0, none⟩) n n]
  have O2 : Below w1.heap.size w1 ((w1.alloc (.cells (madeCells #[.int .i64 0] n) 3)).alloc (.cells #[.slice (some ⟨w1.heap.size, 0, none⟩) n n] 42)) := ((Below.refl _ _).alloc (Nat.le_refl _) _).alloc (by simp) _
  have hs1 : (w1.alloc (.cells (madeCells #[.int .i64 0] n) 3)).heap.size = w1.heap.size + 1 := by simp
  rw [hs1] at B2
  generalize (w1.alloc (.cells (madeCells #[.int .i64 0] n) 3)).alloc (.cells #[.slice (some ⟨w1.heap.size, 0, none⟩) n n] 42) = W at B1 B2 O2 ⊢
  clear hs1
  have hgl := M.hg.lt
  have BO : Both W b g (w1.heap.size + 1) (.slice (some ⟨w1.heap.size, 0, none⟩) n n) (List.replicate n 0) := by
    refine ⟨M.below O2, ⟨B2, ⟨by simp, .inr ⟨w1.heap.size, n, [], by simp, ?_, by simp, by unfold maxLen; omega⟩⟩, by simpa using hn⟩, by simp [ownB]; omega⟩
    rw [madeCells_one, ← hrep] at B1
    simpa using B1
  have OB := bstep hb1 O2
  have fb' : w.heap.size ≤ w1.heap.size + 1 := by have := hb1.size; omega
  have HB := Lib.hid BO
  clear B1 B2 O2 hrep BO M hgl
  generalize w1.heap.size + 1 = b' at *
  go_loopw [10] (fun i wr => ∃ (k : Nat) (v : Value) (l : List Int), k ≤ 60 ∧ i = .int .i64 k ∧ Both wr b g b' v l ∧ Below w.heap.size w wr ∧ l.length = n ∧ OkL l) (fun i _ => 60 - (intOf i).toNat)
  case atStart => exact ⟨0, _, _, by omega, rfl, HB.out, OB, by simp, by intro x hx; simp [List.mem_replicate] at hx; simp [hx.2]⟩
  case round =>
    obtain ⟨k, v, l, hk, rfl, hB, O, hl, hok⟩ := hrel
    have HL := Lib.hid hl
    have HOK := Lib.hid hok
    clear hl hok
    by_cases h : k < m ∧ k < 60
    · obtain ⟨h1, h2⟩ := h
      obtain ⟨ad, rfl, c0, c1⟩ := (HA.out.below O) k h1
      have KD := Lib.hid (do_any hB (K k) (I k))
      unfold mp actV at KD
      generalize K k = kind at *
      generalize I k = ix at *
      go_wp2_with fail
      refine KD.out.mono ?_
      rintro e w2 ⟨rfl, v2, hB2, o2⟩
      go_wp2_with fail
      go_roundw
      case rel => exact ⟨k + 1, v2, doF l kind ix, by omega, by go_num, hB2, O.trans (o2.below_of O.size (by simp; omega)), by rw [doF_length]; exact HL.out, doF_ok HOK.out _ _⟩
      case measure => simp [intOf]; omega
    · have hx : ¬ k < m ∨ (k < m ∧ ¬ k < 60) := by omega
      clear h
      rcases hx with h1 | ⟨h0, h1⟩
      all_goals
        go_wp2_with fail
        go_ret3
        exact ⟨b, g, b', v, l, rfl, hB, O, HL.out, HOK.out, fb, fg, fb'⟩
end Go.Proofs.Ytiiknbnaplpidab.Fm
