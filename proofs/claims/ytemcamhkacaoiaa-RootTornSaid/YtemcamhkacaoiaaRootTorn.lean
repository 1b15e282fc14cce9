/-
  RootTorn: for every input the law returns true, and each argument reads behind the call as before. No condition of its own.
-/
import Derived.Test.YtemcamhkacaoiaaRt9
namespace Go.Proofs.Ytemcamhkacaoiaa.rootTorn
open Go.ChangeShapes Go.WideShapes Go.ChangeAt Go.RowKit
open Go.ChangeMaps (open_string shut_string)
set_option linter.unusedVariables false

open Rt Pk
attribute [local go_sem ↓] Go.wp_at_zero Go.wp_at_succ
theorem ba_append (a b : ByteArray) : (a ++ b).data.toList = a.data.toList ++ b.data.toList := by simp
theorem rput_some {w : World} (ep lg : Int) (A : Option Addr) (n c : Nat) (l : List Int) (h : IntsAt w A n l) (hn : n ≤ 1000000) (hnc : n ≤ c) :
    Calls Try.prog 6 #[rootV ep lg A n c] w fun r w' => (∃ S er, r = .returned (.tuple #[.string S, .int .i64 er])) ∧ Below w.heap.size w w' := by
  by_cases hr : rightR ep lg l
  · obtain ⟨lgN, p, rfl, rfl⟩ := nat_parts hr
    exact (rput_yes ep lgN A n c p h hnc hr).mono fun r w' hx => ⟨⟨_, _, hx.1⟩, hx.2⟩
  · exact (rput_no ep lg A n c l h hn hnc hr).mono fun r w' hx => ⟨⟨_, _, hx.1⟩, hx.2⟩
theorem got_torn {ea eb : Int} {la lb : Nat} {pa pb : List Nat} (ha : rightR ea la (natI pa)) (hb : rightR eb lb (natI pb)) (hne : ea ≠ eb) {k : Nat} {v : List UInt8} (hv : v = (rootL eb lb pb).take k ++ (rootL ea la pa).drop k) {w w' : World} {e : Ending} (hx : GotR v w e w') :
    ∃ (ep lg : Int) (A9 : Option Addr) (n9 c9 : Nat) (l9 : List Int) (b : Bool), e = .returned (.tuple #[.agg #[.int .i64 ep, .int .i64 lg, .slice A9 n9 c9], .bool b]) ∧ IntsAt w' A9 n9 l9 ∧ n9 ≤ 5 ∧ (b = true → (ep = ea ∧ lg = (la : Int) ∧ l9 = natI pa) ∨ (ep = eb ∧ lg = (lb : Int) ∧ l9 = natI pb)) ∧ (∀ ad, A9 = some ad → w.heap.size ≤ ad.block) ∧ Below w.heap.size w w' := by
  rcases hx with ⟨⟨hg, A, c, rfl, hI, hc⟩ | ⟨hno, rfl⟩, hbl⟩
  · refine ⟨_, _, _, _, _, _, _, rfl, hI, hg.1, fun _ => ?_, hc.2, hbl⟩
    have ht := torn ha hb hne k (hv ▸ hg)
    rw [← hv] at ht
    rcases ht with h1 | h1
    · left
      obtain ⟨d1, d2, d3, d4⟩ := dec_root ea la pa ha
      rw [h1, d1, d2, d4]
      exact ⟨rfl, rfl, rfl⟩
    · right
      obtain ⟨d1, d2, d3, d4⟩ := dec_root eb lb pb hb
      rw [h1, d1, d2, d4]
      exact ⟨rfl, rfl, rfl⟩
  · exact ⟨0, 0, none, 0, 0, [], false, rfl, ⟨rfl, fun k x h => by simp at h⟩, Nat.zero_le _, (fun h => by cases h), (fun ad h => by cases h), hbl⟩
set_option maxRecDepth 100000 in
set_option maxHeartbeats 4000000 in
theorem walk_idle {w : World} (ea la : Int) (A : Option Addr) (n c : Nat) (l : List Int) (eb lb : Int) (A' : Option Addr) (n' c' : Nat) (l' : List Int) (h : IntsAt w A n l) (h' : IntsAt w A' n' l') (hn : n ≤ 9223372036854775807) (hn' : n' ≤ 9223372036854775807) (hnc : n ≤ c) (hnc' : n' ≤ c') (N : Nat) (hN : N ≤ 255) (hi : 40 < n ∨ (¬ 40 < n ∧ 40 < n') ∨ (¬ 40 < n ∧ ¬ 40 < n' ∧ ea = eb)) :
    Calls Try.prog 3 #[rootV ea la A n c, rootV eb lb A' n' c', .int .u8 (N : Int)] w fun e w' => e = .returned (.bool true) ∧ Below w.heap.size w w' := by
  have O0 := belowAlloc (belowAlloc (Below.refl w.heap.size w) (.cells #[.int .i64 ea, .int .i64 la, .slice A n c] 24)) (.cells #[.int .i64 eb, .int .i64 lb, .slice A' n' c'] 24)
  have A0 := Lib.hid ((Blk.new w 24 #[.int .i64 ea, .int .i64 la, .slice A n c]).alloc (.cells #[.int .i64 eb, .int .i64 lb, .slice A' n' c'] 24))
  have B0 := Blk.new (w.alloc (.cells #[.int .i64 ea, .int .i64 la, .slice A n c] 24)) 24 #[.int .i64 eb, .int .i64 lb, .slice A' n' c']
  rw [asz] at B0
  have B0 := Lib.hid B0
  have I0 := Lib.hid (h.below O0)
  have J0 := Lib.hid (h'.below O0)
  have O0 := Lib.hid O0
  clear h h'
  have a0 : ((w.alloc (.cells #[.int .i64 ea, .int .i64 la, .slice A n c] 24)).alloc (.cells #[.int .i64 eb, .int .i64 lb, .slice A' n' c'] 24)).cell? ⟨w.heap.size, 0, none⟩ = some (.int .i64 ea) := A0.out.cell_some (i := 0) rfl
  have a1 : ((w.alloc (.cells #[.int .i64 ea, .int .i64 la, .slice A n c] 24)).alloc (.cells #[.int .i64 eb, .int .i64 lb, .slice A' n' c'] 24)).cell? ⟨w.heap.size, 1, none⟩ = some (.int .i64 la) := A0.out.cell_some (i := 1) rfl
  have a2 : ((w.alloc (.cells #[.int .i64 ea, .int .i64 la, .slice A n c] 24)).alloc (.cells #[.int .i64 eb, .int .i64 lb, .slice A' n' c'] 24)).cell? ⟨w.heap.size, 2, none⟩ = some (.slice A n c) := A0.out.cell_some (i := 2) rfl
  have b0 : ((w.alloc (.cells #[.int .i64 ea, .int .i64 la, .slice A n c] 24)).alloc (.cells #[.int .i64 eb, .int .i64 lb, .slice A' n' c'] 24)).cell? ⟨w.heap.size + 1, 0, none⟩ = some (.int .i64 eb) := B0.out.cell_some (i := 0) rfl
  have b1 : ((w.alloc (.cells #[.int .i64 ea, .int .i64 la, .slice A n c] 24)).alloc (.cells #[.int .i64 eb, .int .i64 lb, .slice A' n' c'] 24)).cell? ⟨w.heap.size + 1, 1, none⟩ = some (.int .i64 lb) := B0.out.cell_some (i := 1) rfl
  have b2 : ((w.alloc (.cells #[.int .i64 ea, .int .i64 la, .slice A n c] 24)).alloc (.cells #[.int .i64 eb, .int .i64 lb, .slice A' n' c'] 24)).cell? ⟨w.heap.size + 1, 2, none⟩ = some (.slice A' n' c') := B0.out.cell_some (i := 2) rfl
  unfold rootV at *
  go_enter Try.func3, Try.ntmps3
  rcases hi with h1 | ⟨h1, h2⟩ | ⟨h1, h2, h3⟩
  · have h1I : (40 : Int) < (n : Int) := by omega
    go_wp2_with fail
    refine (awake13_any _).mono ?_
    rintro e wz ⟨rfl, hbz⟩
    have OZ := Lib.hid (bstep O0.out hbz)
    clear hbz
    go_wp2_with fail
    go_ret
    exact ⟨by first | rfl | simp, OZ.out⟩
  · have h1I : ¬ (40 : Int) < (n : Int) := by omega
    have h2I : (40 : Int) < (n' : Int) := by omega
    go_wp2_with fail
    refine (awake13_any _).mono ?_
    rintro e wz ⟨rfl, hbz⟩
    have OZ := Lib.hid (bstep O0.out hbz)
    clear hbz
    go_wp2_with fail
    go_ret
    exact ⟨by first | rfl | simp, OZ.out⟩
  · have h1I : ¬ (40 : Int) < (n : Int) := by omega
    have h2I : ¬ (40 : Int) < (n' : Int) := by omega
    subst h3
    go_wp2_with fail
    refine (awake13_any _).mono ?_
    rintro e wz ⟨rfl, hbz⟩
    have OZ := Lib.hid (bstep O0.out hbz)
    clear hbz
    go_wp2_with fail
    go_ret
    exact ⟨by first | rfl | simp, OZ.out⟩
set_option maxRecDepth 100000 in
set_option maxHeartbeats 4000000 in
theorem walk_badA {w : World} (ea la : Int) (A : Option Addr) (n c : Nat) (l : List Int) (eb lb : Int) (A' : Option Addr) (n' c' : Nat) (l' : List Int) (h : IntsAt w A n l) (h' : IntsAt w A' n' l') (hn : n ≤ 9223372036854775807) (hn' : n' ≤ 9223372036854775807) (hnc : n ≤ c) (hnc' : n' ≤ c') (N : Nat) (hN : N ≤ 255) (h1 : ¬ 40 < n) (h2 : ¬ 40 < n') (h3 : ea ≠ eb) (hr : ¬ rightR ea la l) :
    Calls Try.prog 3 #[rootV ea la A n c, rootV eb lb A' n' c', .int .u8 (N : Int)] w fun e w' => e = .returned (.bool true) ∧ Below w.heap.size w w' := by
  have O0 := belowAlloc (belowAlloc (Below.refl w.heap.size w) (.cells #[.int .i64 ea, .int .i64 la, .slice A n c] 24)) (.cells #[.int .i64 eb, .int .i64 lb, .slice A' n' c'] 24)
  have A0 := Lib.hid ((Blk.new w 24 #[.int .i64 ea, .int .i64 la, .slice A n c]).alloc (.cells #[.int .i64 eb, .int .i64 lb, .slice A' n' c'] 24))
  have B0 := Blk.new (w.alloc (.cells #[.int .i64 ea, .int .i64 la, .slice A n c] 24)) 24 #[.int .i64 eb, .int .i64 lb, .slice A' n' c']
  rw [asz] at B0
  have B0 := Lib.hid B0
  have I0 := Lib.hid (h.below O0)
  have J0 := Lib.hid (h'.below O0)
  have O0 := Lib.hid O0
  clear h h'
  have a0 : ((w.alloc (.cells #[.int .i64 ea, .int .i64 la, .slice A n c] 24)).alloc (.cells #[.int .i64 eb, .int .i64 lb, .slice A' n' c'] 24)).cell? ⟨w.heap.size, 0, none⟩ = some (.int .i64 ea) := A0.out.cell_some (i := 0) rfl
  have a1 : ((w.alloc (.cells #[.int .i64 ea, .int .i64 la, .slice A n c] 24)).alloc (.cells #[.int .i64 eb, .int .i64 lb, .slice A' n' c'] 24)).cell? ⟨w.heap.size, 1, none⟩ = some (.int .i64 la) := A0.out.cell_some (i := 1) rfl
  have a2 : ((w.alloc (.cells #[.int .i64 ea, .int .i64 la, .slice A n c] 24)).alloc (.cells #[.int .i64 eb, .int .i64 lb, .slice A' n' c'] 24)).cell? ⟨w.heap.size, 2, none⟩ = some (.slice A n c) := A0.out.cell_some (i := 2) rfl
  have b0 : ((w.alloc (.cells #[.int .i64 ea, .int .i64 la, .slice A n c] 24)).alloc (.cells #[.int .i64 eb, .int .i64 lb, .slice A' n' c'] 24)).cell? ⟨w.heap.size + 1, 0, none⟩ = some (.int .i64 eb) := B0.out.cell_some (i := 0) rfl
  have b1 : ((w.alloc (.cells #[.int .i64 ea, .int .i64 la, .slice A n c] 24)).alloc (.cells #[.int .i64 eb, .int .i64 lb, .slice A' n' c'] 24)).cell? ⟨w.heap.size + 1, 1, none⟩ = some (.int .i64 lb) := B0.out.cell_some (i := 1) rfl
  have b2 : ((w.alloc (.cells #[.int .i64 ea, .int .i64 la, .slice A n c] 24)).alloc (.cells #[.int .i64 eb, .int .i64 lb, .slice A' n' c'] 24)).cell? ⟨w.heap.size + 1, 2, none⟩ = some (.slice A' n' c') := B0.out.cell_some (i := 2) rfl
  unfold rootV at *
  go_enter Try.func3, Try.ntmps3
  have h1I : ¬ (40 : Int) < (n : Int) := by omega
  have h2I : ¬ (40 : Int) < (n' : Int) := by omega
  have h3I : (ea == eb) = false := by simpa using h3
  go_wp2_with fail
  generalize hW : ((w.alloc (.cells #[.int .i64 ea, .int .i64 la, .slice A n c] 24)).alloc (.cells #[.int .i64 eb, .int .i64 lb, .slice A' n' c'] 24)) = W0 at *
  clear hW a0 a1 a2 b0 b1 b2
  refine (to13_any ea la A n c).mono ?_
  rintro e w1 ⟨rfl, hb1⟩
  have O1 := Lib.hid (bstep O0.out hb1)
  have A1 := Lib.hid (A0.out.below hb1 A0.out.lt)
  have B1 := Lib.hid (B0.out.below hb1 B0.out.lt)
  have I1 := Lib.hid (I0.out.below hb1)
  have J1 := Lib.hid (J0.out.below hb1)
  have KPA := Lib.hid (rput_no (w := w1) ea la A n c l I1.out (by omega) hnc hr)
  unfold rootV at KPA ⊢
  clear hb1
  go_wp2_with fail
  refine KPA.out.mono ?_
  rintro e w2 ⟨PA, hb2⟩
  subst PA
  have O2 := Lib.hid (bstep O1.out hb2)
  have A2 := Lib.hid (A1.out.below hb2 A1.out.lt)
  have B2 := Lib.hid (B1.out.below hb2 B1.out.lt)
  have J2 := Lib.hid (J1.out.below hb2)
  clear hb2 KPA
  have b0 : w2.cell? ⟨w.heap.size + 1, 0, none⟩ = some (.int .i64 eb) := B2.out.cell_some (i := 0) rfl
  have b1 : w2.cell? ⟨w.heap.size + 1, 1, none⟩ = some (.int .i64 lb) := B2.out.cell_some (i := 1) rfl
  have b2 : w2.cell? ⟨w.heap.size + 1, 2, none⟩ = some (.slice A' n' c') := B2.out.cell_some (i := 2) rfl
  go_wp2_with fail
  refine (to13_any eb lb A' n' c').mono ?_
  rintro e w3 ⟨rfl, hb3⟩
  have O3 := Lib.hid (bstep O2.out hb3)
  have A3 := Lib.hid (A2.out.below hb3 A2.out.lt)
  have B3 := Lib.hid (B2.out.below hb3 B2.out.lt)
  have J3 := Lib.hid (J2.out.below hb3)
  have KPB := Lib.hid (rput_some (w := w3) eb lb A' n' c' l' J3.out (by omega) hnc')
  unfold rootV at KPB ⊢
  clear hb3 b0 b1 b2
  go_wp2_with fail
  refine KPB.out.mono ?_
  rintro e w4 ⟨PB, hb4⟩
  obtain ⟨SB, er, rfl⟩ := PB
  have O4 := Lib.hid (bstep O3.out hb4)
  have A4 := Lib.hid (A3.out.below hb4 A3.out.lt)
  have B4 := Lib.hid (B3.out.below hb4 B3.out.lt)
  clear hb4 KPB
  go_wp2_with fail
  refine (awake13_any _).mono ?_
  rintro e wz ⟨rfl, hbz⟩
  have OZ := Lib.hid (bstep O4.out hbz)
  clear hbz
  go_wp2_with fail
  go_ret
  exact ⟨by first | rfl | simp, OZ.out⟩
set_option maxRecDepth 100000 in
set_option maxHeartbeats 4000000 in
theorem walk_badB {w : World} (ea : Int) (la : Nat) (A : Option Addr) (n c : Nat) (p : List Nat) (eb lb : Int) (A' : Option Addr) (n' c' : Nat) (l' : List Int) (h : IntsAt w A n (natI p)) (h' : IntsAt w A' n' l') (hn : n ≤ 9223372036854775807) (hn' : n' ≤ 9223372036854775807) (hnc : n ≤ c) (hnc' : n' ≤ c') (N : Nat) (hN : N ≤ 255) (h1 : ¬ 40 < n) (h2 : ¬ 40 < n') (h3 : ea ≠ eb) (ra : rightR ea la (natI p)) (hr : ¬ rightR eb lb l') :
    Calls Try.prog 3 #[rootV ea (la : Int) A n c, rootV eb lb A' n' c', .int .u8 (N : Int)] w fun e w' => e = .returned (.bool true) ∧ Below w.heap.size w w' := by
  have O0 := belowAlloc (belowAlloc (Below.refl w.heap.size w) (.cells #[.int .i64 ea, .int .i64 (la : Int), .slice A n c] 24)) (.cells #[.int .i64 eb, .int .i64 lb, .slice A' n' c'] 24)
  have A0 := Lib.hid ((Blk.new w 24 #[.int .i64 ea, .int .i64 (la : Int), .slice A n c]).alloc (.cells #[.int .i64 eb, .int .i64 lb, .slice A' n' c'] 24))
  have B0 := Blk.new (w.alloc (.cells #[.int .i64 ea, .int .i64 (la : Int), .slice A n c] 24)) 24 #[.int .i64 eb, .int .i64 lb, .slice A' n' c']
  rw [asz] at B0
  have B0 := Lib.hid B0
  have I0 := Lib.hid (h.below O0)
  have J0 := Lib.hid (h'.below O0)
  have O0 := Lib.hid O0
  clear h h'
  have a0 : ((w.alloc (.cells #[.int .i64 ea, .int .i64 (la : Int), .slice A n c] 24)).alloc (.cells #[.int .i64 eb, .int .i64 lb, .slice A' n' c'] 24)).cell? ⟨w.heap.size, 0, none⟩ = some (.int .i64 ea) := A0.out.cell_some (i := 0) rfl
  have a1 : ((w.alloc (.cells #[.int .i64 ea, .int .i64 (la : Int), .slice A n c] 24)).alloc (.cells #[.int .i64 eb, .int .i64 lb, .slice A' n' c'] 24)).cell? ⟨w.heap.size, 1, none⟩ = some (.int .i64 (la : Int)) := A0.out.cell_some (i := 1) rfl
  have a2 : ((w.alloc (.cells #[.int .i64 ea, .int .i64 (la : Int), .slice A n c] 24)).alloc (.cells #[.int .i64 eb, .int .i64 lb, .slice A' n' c'] 24)).cell? ⟨w.heap.size, 2, none⟩ = some (.slice A n c) := A0.out.cell_some (i := 2) rfl
  have b0 : ((w.alloc (.cells #[.int .i64 ea, .int .i64 (la : Int), .slice A n c] 24)).alloc (.cells #[.int .i64 eb, .int .i64 lb, .slice A' n' c'] 24)).cell? ⟨w.heap.size + 1, 0, none⟩ = some (.int .i64 eb) := B0.out.cell_some (i := 0) rfl
  have b1 : ((w.alloc (.cells #[.int .i64 ea, .int .i64 (la : Int), .slice A n c] 24)).alloc (.cells #[.int .i64 eb, .int .i64 lb, .slice A' n' c'] 24)).cell? ⟨w.heap.size + 1, 1, none⟩ = some (.int .i64 lb) := B0.out.cell_some (i := 1) rfl
  have b2 : ((w.alloc (.cells #[.int .i64 ea, .int .i64 (la : Int), .slice A n c] 24)).alloc (.cells #[.int .i64 eb, .int .i64 lb, .slice A' n' c'] 24)).cell? ⟨w.heap.size + 1, 2, none⟩ = some (.slice A' n' c') := B0.out.cell_some (i := 2) rfl
  unfold rootV at *
  go_enter Try.func3, Try.ntmps3
  have hpl := rootL_length ea la p (by have := rightR_len ra; simpa [natI] using this)
  obtain ⟨SA, hSA⟩ : ∃ S : ByteArray, (⟨(rootL ea la p).toArray⟩ : ByteArray) = S := ⟨_, rfl⟩
  have h1I : ¬ (40 : Int) < (n : Int) := by omega
  have h2I : ¬ (40 : Int) < (n' : Int) := by omega
  have h3I : (ea == eb) = false := by simpa using h3
  go_wp2_with fail
  generalize hW : ((w.alloc (.cells #[.int .i64 ea, .int .i64 (la : Int), .slice A n c] 24)).alloc (.cells #[.int .i64 eb, .int .i64 lb, .slice A' n' c'] 24)) = W0 at *
  clear hW a0 a1 a2 b0 b1 b2
  refine (to13_any ea (la : Int) A n c).mono ?_
  rintro e w1 ⟨rfl, hb1⟩
  have O1 := Lib.hid (bstep O0.out hb1)
  have A1 := Lib.hid (A0.out.below hb1 A0.out.lt)
  have B1 := Lib.hid (B0.out.below hb1 B0.out.lt)
  have I1 := Lib.hid (I0.out.below hb1)
  have J1 := Lib.hid (J0.out.below hb1)
  have KPA := Lib.hid (rput_yes (w := w1) ea la A n c p I1.out hnc ra)
  rw [hSA] at KPA
  unfold rootV at KPA ⊢
  clear hb1
  go_wp2_with fail
  refine KPA.out.mono ?_
  rintro e w2 ⟨PA, hb2⟩
  subst PA
  have O2 := Lib.hid (bstep O1.out hb2)
  have A2 := Lib.hid (A1.out.below hb2 A1.out.lt)
  have B2 := Lib.hid (B1.out.below hb2 B1.out.lt)
  have J2 := Lib.hid (J1.out.below hb2)
  clear hb2 KPA
  have b0 : w2.cell? ⟨w.heap.size + 1, 0, none⟩ = some (.int .i64 eb) := B2.out.cell_some (i := 0) rfl
  have b1 : w2.cell? ⟨w.heap.size + 1, 1, none⟩ = some (.int .i64 lb) := B2.out.cell_some (i := 1) rfl
  have b2 : w2.cell? ⟨w.heap.size + 1, 2, none⟩ = some (.slice A' n' c') := B2.out.cell_some (i := 2) rfl
  go_wp2_with fail
  refine (to13_any eb lb A' n' c').mono ?_
  rintro e w3 ⟨rfl, hb3⟩
  have O3 := Lib.hid (bstep O2.out hb3)
  have A3 := Lib.hid (A2.out.below hb3 A2.out.lt)
  have B3 := Lib.hid (B2.out.below hb3 B2.out.lt)
  have J3 := Lib.hid (J2.out.below hb3)
  have KPB := Lib.hid (rput_no (w := w3) eb lb A' n' c' l' J3.out (by omega) hnc' hr)
  unfold rootV at KPB ⊢
  clear hb3 b0 b1 b2
  go_wp2_with fail
  refine KPB.out.mono ?_
  rintro e w4 ⟨PB, hb4⟩
  subst PB
  have O4 := Lib.hid (bstep O3.out hb4)
  have A4 := Lib.hid (A3.out.below hb4 A3.out.lt)
  have B4 := Lib.hid (B3.out.below hb4 B3.out.lt)
  clear hb4 KPB
  go_wp2_with fail
  refine (awake13_any _).mono ?_
  rintro e wz ⟨rfl, hbz⟩
  have OZ := Lib.hid (bstep O4.out hbz)
  clear hbz
  go_wp2_with fail
  go_ret
  exact ⟨by first | rfl | simp, OZ.out⟩
set_option maxRecDepth 100000 in
set_option maxHeartbeats 4000000 in
theorem walk_good {w : World} (ea : Int) (la : Nat) (A : Option Addr) (n c : Nat) (p : List Nat) (eb : Int) (lb : Nat) (A' : Option Addr) (n' c' : Nat) (q : List Nat) (h : IntsAt w A n (natI p)) (h' : IntsAt w A' n' (natI q)) (hn : n ≤ 9223372036854775807) (hn' : n' ≤ 9223372036854775807) (hnc : n ≤ c) (hnc' : n' ≤ c') (N : Nat) (hN : N ≤ 255) (h1 : ¬ 40 < n) (h2 : ¬ 40 < n') (h3 : ea ≠ eb) (ra : rightR ea la (natI p)) (rb : rightR eb lb (natI q)) :
    Calls Try.prog 3 #[rootV ea (la : Int) A n c, rootV eb (lb : Int) A' n' c', .int .u8 (N : Int)] w fun e w' => e = .returned (.bool true) ∧ Below w.heap.size w w' := by
  have hpa := rootL_length ea la p (by have := rightR_len ra; simpa [natI] using this)
  have hpb := rootL_length eb lb q (by have := rightR_len rb; simpa [natI] using this)
  obtain ⟨SA, hSA⟩ : ∃ S : ByteArray, (⟨(rootL ea la p).toArray⟩ : ByteArray) = S := ⟨_, rfl⟩
  obtain ⟨SB, hSB⟩ : ∃ S : ByteArray, (⟨(rootL eb lb q).toArray⟩ : ByteArray) = S := ⟨_, rfl⟩
  have hla : SA.data.toList = rootL ea la p := by rw [← hSA]
  have hlb : SB.data.toList = rootL eb lb q := by rw [← hSB]
  have hza : SA.size = 64 := by rw [← hSA]; show (rootL ea la p).toArray.size = 64; simpa using hpa
  have hzb : SB.size = 64 := by rw [← hSB]; show (rootL eb lb q).toArray.size = 64; simpa using hpb
  have HLA := Lib.hid hla
  have HLB := Lib.hid hlb
  have HRA := Lib.hid ra
  have HRB := Lib.hid rb
  have O0 := belowAlloc (belowAlloc (Below.refl w.heap.size w) (.cells #[.int .i64 ea, .int .i64 (la : Int), .slice A n c] 24)) (.cells #[.int .i64 eb, .int .i64 (lb : Int), .slice A' n' c'] 24)
  have A0 := Lib.hid ((Blk.new w 24 #[.int .i64 ea, .int .i64 (la : Int), .slice A n c]).alloc (.cells #[.int .i64 eb, .int .i64 (lb : Int), .slice A' n' c'] 24))
  have B0 := Blk.new (w.alloc (.cells #[.int .i64 ea, .int .i64 (la : Int), .slice A n c] 24)) 24 #[.int .i64 eb, .int .i64 (lb : Int), .slice A' n' c']
  rw [asz] at B0
  have B0 := Lib.hid B0
  have I0 := Lib.hid (h.below O0)
  have J0 := Lib.hid (h'.below O0)
  have O0 := Lib.hid O0
  clear h h'
  have a0 : ((w.alloc (.cells #[.int .i64 ea, .int .i64 (la : Int), .slice A n c] 24)).alloc (.cells #[.int .i64 eb, .int .i64 (lb : Int), .slice A' n' c'] 24)).cell? ⟨w.heap.size, 0, none⟩ = some (.int .i64 ea) := A0.out.cell_some (i := 0) rfl
  have a1 : ((w.alloc (.cells #[.int .i64 ea, .int .i64 (la : Int), .slice A n c] 24)).alloc (.cells #[.int .i64 eb, .int .i64 (lb : Int), .slice A' n' c'] 24)).cell? ⟨w.heap.size, 1, none⟩ = some (.int .i64 (la : Int)) := A0.out.cell_some (i := 1) rfl
  have a2 : ((w.alloc (.cells #[.int .i64 ea, .int .i64 (la : Int), .slice A n c] 24)).alloc (.cells #[.int .i64 eb, .int .i64 (lb : Int), .slice A' n' c'] 24)).cell? ⟨w.heap.size, 2, none⟩ = some (.slice A n c) := A0.out.cell_some (i := 2) rfl
  have b0 : ((w.alloc (.cells #[.int .i64 ea, .int .i64 (la : Int), .slice A n c] 24)).alloc (.cells #[.int .i64 eb, .int .i64 (lb : Int), .slice A' n' c'] 24)).cell? ⟨w.heap.size + 1, 0, none⟩ = some (.int .i64 eb) := B0.out.cell_some (i := 0) rfl
  have b1 : ((w.alloc (.cells #[.int .i64 ea, .int .i64 (la : Int), .slice A n c] 24)).alloc (.cells #[.int .i64 eb, .int .i64 (lb : Int), .slice A' n' c'] 24)).cell? ⟨w.heap.size + 1, 1, none⟩ = some (.int .i64 (lb : Int)) := B0.out.cell_some (i := 1) rfl
  have b2 : ((w.alloc (.cells #[.int .i64 ea, .int .i64 (la : Int), .slice A n c] 24)).alloc (.cells #[.int .i64 eb, .int .i64 (lb : Int), .slice A' n' c'] 24)).cell? ⟨w.heap.size + 1, 2, none⟩ = some (.slice A' n' c') := B0.out.cell_some (i := 2) rfl
  unfold rootV at *
  go_enter Try.func3, Try.ntmps3
  have h1I : ¬ (40 : Int) < (n : Int) := by omega
  have h2I : ¬ (40 : Int) < (n' : Int) := by omega
  have h3I : (ea == eb) = false := by simpa using h3
  go_wp2_with fail
  generalize hW : ((w.alloc (.cells #[.int .i64 ea, .int .i64 (la : Int), .slice A n c] 24)).alloc (.cells #[.int .i64 eb, .int .i64 (lb : Int), .slice A' n' c'] 24)) = W0 at *
  clear hW a0 a1 a2 b0 b1 b2
  refine (to13_any ea (la : Int) A n c).mono ?_
  rintro e w1 ⟨rfl, hb1⟩
  have O1 := Lib.hid (bstep O0.out hb1)
  have A1 := Lib.hid (A0.out.below hb1 A0.out.lt)
  have B1 := Lib.hid (B0.out.below hb1 B0.out.lt)
  have I1 := Lib.hid (I0.out.below hb1)
  have J1 := Lib.hid (J0.out.below hb1)
  have KPA := Lib.hid (rput_yes (w := w1) ea la A n c p I1.out hnc ra)
  rw [hSA] at KPA
  unfold rootV at KPA ⊢
  clear hb1
  go_wp2_with fail
  refine KPA.out.mono ?_
  rintro e w2 ⟨PA, hb2⟩
  subst PA
  have O2 := Lib.hid (bstep O1.out hb2)
  have A2 := Lib.hid (A1.out.below hb2 A1.out.lt)
  have B2 := Lib.hid (B1.out.below hb2 B1.out.lt)
  have J2 := Lib.hid (J1.out.below hb2)
  have hb2' := hb2
  clear hb2 KPA
  have b0 : w2.cell? ⟨w.heap.size + 1, 0, none⟩ = some (.int .i64 eb) := B2.out.cell_some (i := 0) rfl
  have b1 : w2.cell? ⟨w.heap.size + 1, 1, none⟩ = some (.int .i64 (lb : Int)) := B2.out.cell_some (i := 1) rfl
  have b2 : w2.cell? ⟨w.heap.size + 1, 2, none⟩ = some (.slice A' n' c') := B2.out.cell_some (i := 2) rfl
  go_wp2_with fail
  refine (to13_any eb (lb : Int) A' n' c').mono ?_
  rintro e w3 ⟨rfl, hb3⟩
  have O3 := Lib.hid (bstep O2.out hb3)
  have A3 := Lib.hid (A2.out.below hb3 A2.out.lt)
  have B3 := Lib.hid (B2.out.below hb3 B2.out.lt)
  have J3 := Lib.hid (J2.out.below hb3)
  have KPB := Lib.hid (rput_yes (w := w3) eb lb A' n' c' q J3.out hnc' rb)
  rw [hSB] at KPB
  unfold rootV at KPB ⊢
  have hb3' := hb3
  clear hb3 b0 b1 b2
  go_wp2_with fail
  refine KPB.out.mono ?_
  rintro e w4 ⟨PB, hb4⟩
  subst PB
  have O4 := Lib.hid (bstep O3.out hb4)
  have A4 := Lib.hid (A3.out.below hb4 A3.out.lt)
  have B4 := Lib.hid (B3.out.below hb4 B3.out.lt)
  have hb4' := hb4
  clear hb4 KPB
  have I4 := Lib.hid ((((I1.out.below hb2').below hb3').below hb4'))
  have J4 := Lib.hid (J3.out.below hb4')
  obtain ⟨k, hk⟩ : ∃ k, N % 65 = k := ⟨_, rfl⟩
  have hk64 : k ≤ 64 := by omega
  have hkI : (N : Int) % 65 = (k : Int) := by omega
  have zA : (SA.size : Int) = 64 := by omega
  have zB : (SB.size : Int) = 64 := by omega
  clear hSA hSB hla hlb hpa hpb ra rb hk
  obtain ⟨U, hU⟩ : ∃ U, SB.extract 0 k ++ SA.extract k 64 = U := ⟨_, rfl⟩
  have hUl : U.data.toList = (rootL eb lb q).take k ++ (rootL ea la p).drop k := by
    rw [← hU, ba_append, exl, exl, HLA.out, HLB.out]
    rw [List.drop_zero, Nat.sub_zero, List.take_of_length_le (l := List.drop k (rootL ea la p)) (by rw [List.length_drop, ← HLA.out]; simp; omega)]
  have e1 : (SB.extract 0 k).size = k := by rw [ByteArray.size_extract]; omega
  have e2 : (SA.extract k 64).size = 64 - k := by rw [ByteArray.size_extract]; omega
  have hUz : U.size = 64 := by rw [← hU, ByteArray.size_append, e1, e2]; omega
  have KG := Lib.hid (fun w => rget_any U hUz w)
  have HT := Lib.hid (fun (w w' : World) (e : Ending) (hx : GotR U.data.toList w e w') => got_torn HRA.out HRB.out h3 hUl hx)
  have kk1 : (k : Int) ≤ 64 := by omega
  have kk2 : (0 : Int) ≤ (k : Int) := by omega
  have z1 : ¬ 9223372036854775807 < k + (64 - k) := by omega
  have OPR := Lib.hid O4.out
  clear hUl hUz
  go_wp2_with fail
  rw [hkI]
  clear hkI
  go_cut [12, 13] from 73 to 82 (fun v12 v13 wx => ∃ (g : Nat) (ep lg : Int) (A9 : Option Addr) (n9 c9 : Nat) (l9 : List Int) (b : Bool), v12 = .pointer (some ⟨g, 0, none⟩) ∧ v13 = .bool b ∧ Blk wx g 29 #[.int .i64 ep, .int .i64 lg, .slice A9 n9 c9] ∧ IntsAt wx A9 n9 l9 ∧ n9 ≤ 5 ∧ Hid (b = true → (ep = ea ∧ lg = (la : Int) ∧ l9 = natI p) ∨ (ep = eb ∧ lg = (lb : Int) ∧ l9 = natI q)) ∧ Below w4.heap.size w4 wx)
  case first =>
    refine wp_region_held_drew (S := fun _ => True) (by kernel_rfl) trivial (fun hHeld => ?_)
    refine wpAnyH_take (i := 0) (oi := ⟨some 73, _, _, _, _, _⟩) (v := ?_) rfl (by kernel_rfl) (by kernel_rfl) (by kernel_rfl) (fun _ _ _ h => h) (Or.inl ⟨by kernel_rfl, ?_⟩) (by assumption) ?_
    rotate_left
    · (intro w hSw; (try dsimp only at hSw); go_simp; (try (with_reducible rfl)))
    try simp only [Act.put, List.setIfInBounds_toArray, List.set_cons_zero, List.set_cons_succ]
    refine wpAnyH_take (i := 1) (oi := ⟨some 74, _, _, _, _, _⟩) (v := ?_) rfl (by kernel_rfl) (by kernel_rfl) (by kernel_rfl) (fun _ _ _ h => h) (Or.inl ⟨by kernel_rfl, ?_⟩) (by assumption) ?_
    rotate_left
    · (intro w hSw; (try dsimp only at hSw); go_simp; (try (with_reducible rfl)))
    try simp only [Act.put, List.setIfInBounds_toArray, List.set_cons_zero, List.set_cons_succ]
    refine wpAnyH_take (i := 2) (oi := ⟨some 75, _, _, _, _, _⟩) (v := ?_) rfl (by kernel_rfl) (by kernel_rfl) (by kernel_rfl) (fun _ _ _ h => h) (Or.inl ⟨by kernel_rfl, ?_⟩) (by assumption) ?_
    rotate_left
    · (intro w hSw; (try dsimp only at hSw); go_simp; (try (with_reducible rfl)))
    try simp only [Act.put, List.setIfInBounds_toArray, List.set_cons_zero, List.set_cons_succ]
    refine wpAnyH_take (i := 3) (oi := ⟨some 76, _, _, _, _, _⟩) (v := ?_) rfl (by kernel_rfl) (by kernel_rfl) (by kernel_rfl) (fun _ _ _ h => h) (Or.inl ⟨by kernel_rfl, ?_⟩) (by assumption) ?_
    rotate_left
    · (intro w hSw; (try dsimp only at hSw); go_simp; (try (with_reducible rfl)))
    try simp only [Act.put, List.setIfInBounds_toArray, List.set_cons_zero, List.set_cons_succ]
    refine wpAnyH_take (i := 4) (oi := ⟨some 77, _, _, _, _, _⟩) (v := ?_) rfl (by kernel_rfl) (by kernel_rfl) (by kernel_rfl) (fun _ _ _ h => h) (Or.inl ⟨by kernel_rfl, ?_⟩) (by assumption) ?_
    rotate_left
    · (intro w hSw; (try dsimp only at hSw); go_simp; (try (with_reducible rfl)))
    try simp only [Act.put, List.setIfInBounds_toArray, List.set_cons_zero, List.set_cons_succ]
    refine wpAnyH_take (i := 5) (oi := ⟨some 78, _, _, _, _, _⟩) (v := ?_) rfl (by kernel_rfl) (by kernel_rfl) (by kernel_rfl) (fun _ _ _ h => h) (Or.inl ⟨by kernel_rfl, ?_⟩) (by assumption) ?_
    rotate_left
    · (intro w hSw; (try dsimp only at hSw); go_simp; (try (with_reducible rfl)))
    try simp only [Act.put, List.setIfInBounds_toArray, List.set_cons_zero, List.set_cons_succ]
    refine wpAnyH_take (i := 6) (oi := ⟨some 79, _, _, _, _, _⟩) (v := ?_) rfl (by kernel_rfl) (by kernel_rfl) (by kernel_rfl) (fun _ _ _ h => h) (Or.inl ⟨by kernel_rfl, ?_⟩) (by assumption) ?_
    rotate_left
    · (intro w hSw; (try dsimp only at hSw); go_simp; (try (with_reducible rfl)))
    try simp only [Act.put, List.setIfInBounds_toArray, List.set_cons_zero, List.set_cons_succ]
    refine wpAnyH_ready (rs := [7, 11]) (by kernel_rfl) (by simp) ?_
    refine AllReadyH.cons (o := ⟨some 80, _, _, _, _, _⟩) rfl (fun K hK => ?_) (AllReadyH.cons (o := ⟨some 12, _, _, _, _, _⟩) rfl (fun K hK => ?_) AllReadyH.nil)
    · go_simp
      go_at_call 8
      refine (KG.out _).mono ?_
      rintro e w5 hx
      obtain ⟨ep, lg, A9, n9, c9, l9, b, rfl, hI, hn9, hbb, hfr, hbl⟩ := HT.out _ _ _ hx
      have BL := Lib.hid ((Below.refl w4.heap.size w4).drew.trans hbl)
      have FX := Lib.hid (Blk.new w5 29 #[.int .i64 ep, .int .i64 lg, .slice A9 n9 c9])
      have bx := belowAlloc (Below.refl w5.heap.size w5) (.cells #[.int .i64 ep, .int .i64 lg, .slice A9 n9 c9] 29)
      have IX := Lib.hid (hI.below bx)
      have BX := Lib.hid (bstep BL.out bx)
      have HB9 := Lib.hid hbb
      clear hx hI hbb hbl hfr bx
      go_simp
      refine hK.out _ _ trivial (fun hHeld => ?_)
      try simp only [Act.put, List.setIfInBounds_toArray, List.set_cons_zero, List.set_cons_succ]
      refine wpAnyH_take (i := 8) (oi := ⟨some 72, _, _, _, _, _⟩) (v := ?_) rfl (by kernel_rfl) (by kernel_rfl) (by kernel_rfl) (fun _ _ _ h => h) (Or.inl ⟨by kernel_rfl, ?_⟩) (by assumption) ?_
      rotate_left
      · (intro w hSw; (try dsimp only at hSw); go_simp; (try (with_reducible rfl)))
      try simp only [Act.put, List.setIfInBounds_toArray, List.set_cons_zero, List.set_cons_succ]
      refine wpAnyH_take (i := 9) (oi := ⟨some 81, _, _, _, _, _⟩) (v := ?_) rfl (by kernel_rfl) (by kernel_rfl) (by kernel_rfl) (fun _ _ _ h => h) (Or.inl ⟨by kernel_rfl, ?_⟩) (by assumption) ?_
      rotate_left
      · (intro w hSw; (try dsimp only at hSw); go_simp; (try (with_reducible rfl)))
      try simp only [Act.put, List.setIfInBounds_toArray, List.set_cons_zero, List.set_cons_succ]
      refine wpAnyH_take (i := 10) (oi := ⟨some 82, _, _, _, _, _⟩) (v := ?_) rfl (by kernel_rfl) (by kernel_rfl) (by kernel_rfl) (fun _ _ _ h => h) (Or.inl ⟨by kernel_rfl, ?_⟩) (by assumption) ?_
      rotate_left
      · (intro w hSw; (try dsimp only at hSw); go_simp; (try (with_reducible rfl)))
      try simp only [Act.put, List.setIfInBounds_toArray, List.set_cons_zero, List.set_cons_succ]
      refine wpAnyH_ready (rs := [11]) (by kernel_rfl) (by simp) ?_
      refine AllReadyH.cons (o := ⟨some 12, _, _, _, _, _⟩) rfl (fun K hK => ?_) AllReadyH.nil
      go_simp
      refine hK.out _ _ trivial (fun hHeld => ?_)
      try simp only [Act.put, List.setIfInBounds_toArray, List.set_cons_zero, List.set_cons_succ]
      refine wpAnyH_ready (rs := [12]) (by kernel_rfl) (by simp) ?_
      refine AllReadyH.cons (o := ⟨none, _, _, _, _, _⟩) rfl (fun K hK => ?_) AllReadyH.nil
      go_simp
      refine hK.out _ _ trivial (fun hHeld => ?_)
      try simp only [Act.put, List.setIfInBounds_toArray, List.set_cons_zero, List.set_cons_succ]
      refine wpAnyH_take (i := 13) (oi := ⟨some 13, _, _, _, _, _⟩) (v := ?_) rfl (by kernel_rfl) (by kernel_rfl) (by kernel_rfl) (fun _ _ _ h => h) (Or.inl ⟨by kernel_rfl, ?_⟩) (by assumption) ?_
      rotate_left
      · (intro w hSw; (try dsimp only at hSw); go_simp; (try (with_reducible rfl)))
      try simp only [Act.put, List.setIfInBounds_toArray, List.set_cons_zero, List.set_cons_succ]
      refine wpAnyH_done (by kernel_rfl) ?_ _
      go_wp2_with fail
      go_meet
      exact ⟨_, ep, lg, A9, n9, c9, l9, b, rfl, rfl, FX.out, IX.out, hn9, HB9, BX.out⟩
    · go_simp
      have BL0 := Lib.hid (belowAlloc (Below.refl w4.heap.size w4) (.cells #[.int .i64 0, .int .i64 0, .slice none 0 0] 29)).drew
      have ZN0 := Lib.hid ((Blk.new w4 29 #[.int .i64 0, .int .i64 0, .slice none 0 0]).drew)
      refine hK.out _ _ trivial (fun hHeld => ?_)
      try simp only [Act.put, List.setIfInBounds_toArray, List.set_cons_zero, List.set_cons_succ]
      refine wpAnyH_ready (rs := [7]) (by kernel_rfl) (by simp) ?_
      refine AllReadyH.cons (o := ⟨some 80, _, _, _, _, _⟩) rfl (fun K hK => ?_) AllReadyH.nil
      go_simp
      go_at_call 8
      refine (KG.out _).mono ?_
      rintro e w5 hx
      obtain ⟨ep, lg, A9, n9, c9, l9, b, rfl, hI, hn9, hbb, hfr, hbl⟩ := HT.out _ _ _ hx
      have ZN := ZN0.out.below hbl ZN0.out.lt
      have OS := ((((Only.refl [w4.heap.size] w5).setCell (p := ⟨w4.heap.size, 0, none⟩) (fun _ => by simp) (.int .i64 ep)).setCell (p := ⟨w4.heap.size, 1, none⟩) (fun _ => by simp) (.int .i64 lg)).setCell (p := ⟨w4.heap.size, 2, none⟩) (fun _ => by simp) (.slice A9 n9 c9))
      have FX := Lib.hid (((ZN.set_ 0 (.int .i64 ep)).set_ 1 (.int .i64 lg)).set_ 2 (.slice A9 n9 c9))
      have b5 := BL0.out.trans (hbl.mono BL0.out.size)
      have IX := Lib.hid (hI.only OS (fun ad h hm => by
        have h5 := hfr ad h
        have h6 : w4.heap.size + 1 ≤ ad.block := by
          have : ((w4.alloc (.cells #[.int .i64 0, .int .i64 0, .slice none 0 0] 29)).drew).heap.size = w4.heap.size + 1 := asz _ _
          omega
        simp at hm; omega))
      have BX := Lib.hid (b5.trans (OS.below_of b5.size (fun y hy => by simp at hy; omega)))
      have HB9 := Lib.hid hbb
      have f0 : w5.frozen? ⟨w4.heap.size, 0, none⟩ = false := ZN.frozen 0 (by simp)
      have f1 : w5.frozen? ⟨w4.heap.size, 1, none⟩ = false := ZN.frozen 1 (by simp)
      have f2 : w5.frozen? ⟨w4.heap.size, 2, none⟩ = false := ZN.frozen 2 (by simp)
      have g0 : w5.cell? ⟨w4.heap.size, 0, none⟩ = some (.int .i64 0) := ZN.cell_some (i := 0) rfl
      have g1 : w5.cell? ⟨w4.heap.size, 1, none⟩ = some (.int .i64 0) := ZN.cell_some (i := 1) rfl
      have g2 : w5.cell? ⟨w4.heap.size, 2, none⟩ = some (.slice none 0 0) := ZN.cell_some (i := 2) rfl
      clear hx hI hbb hbl hfr OS ZN b5
      go_simp
      refine hK.out _ _ trivial (fun hHeld => ?_)
      try simp only [Act.put, List.setIfInBounds_toArray, List.set_cons_zero, List.set_cons_succ]
      refine wpAnyH_take (i := 8) (oi := ⟨some 72, _, _, _, _, _⟩) (v := ?_) rfl (by kernel_rfl) (by kernel_rfl) (by kernel_rfl) (fun _ _ _ h => h) (Or.inl ⟨by kernel_rfl, ?_⟩) (by assumption) ?_
      rotate_left
      · (intro w hSw; (try dsimp only at hSw); go_simp; (try (with_reducible rfl)))
      try simp only [Act.put, List.setIfInBounds_toArray, List.set_cons_zero, List.set_cons_succ]
      refine wpAnyH_take (i := 9) (oi := ⟨some 81, _, _, _, _, _⟩) (v := ?_) rfl (by kernel_rfl) (by kernel_rfl) (by kernel_rfl) (fun _ _ _ h => h) (Or.inl ⟨by kernel_rfl, ?_⟩) (by assumption) ?_
      rotate_left
      · (intro w hSw; (try dsimp only at hSw); go_simp; (try (with_reducible rfl)))
      try simp only [Act.put, List.setIfInBounds_toArray, List.set_cons_zero, List.set_cons_succ]
      refine wpAnyH_take (i := 10) (oi := ⟨some 82, _, _, _, _, _⟩) (v := ?_) rfl (by kernel_rfl) (by kernel_rfl) (by kernel_rfl) (fun _ _ _ h => h) (Or.inl ⟨by kernel_rfl, ?_⟩) (by assumption) ?_
      rotate_left
      · (intro w hSw; (try dsimp only at hSw); go_simp; (try (with_reducible rfl)))
      try simp only [Act.put, List.setIfInBounds_toArray, List.set_cons_zero, List.set_cons_succ]
      refine wpAnyH_ready (rs := [12]) (by kernel_rfl) (by simp) ?_
      refine AllReadyH.cons (o := ⟨none, _, _, _, _, _⟩) rfl (fun K hK => ?_) AllReadyH.nil
      go_simp
      refine hK.out _ _ trivial (fun hHeld => ?_)
      try simp only [Act.put, List.setIfInBounds_toArray, List.set_cons_zero, List.set_cons_succ]
      refine wpAnyH_take (i := 13) (oi := ⟨some 13, _, _, _, _, _⟩) (v := ?_) rfl (by kernel_rfl) (by kernel_rfl) (by kernel_rfl) (fun _ _ _ h => h) (Or.inl ⟨by kernel_rfl, ?_⟩) (by assumption) ?_
      rotate_left
      · (intro w hSw; (try dsimp only at hSw); go_simp; (try (with_reducible rfl)))
      try simp only [Act.put, List.setIfInBounds_toArray, List.set_cons_zero, List.set_cons_succ]
      refine wpAnyH_done (by kernel_rfl) ?_ _
      go_wp2_with fail
      go_meet
      exact ⟨_, ep, lg, A9, n9, c9, l9, b, rfl, rfl, FX.out, IX.out, hn9, HB9, BX.out⟩
  case rest =>
    obtain ⟨g, ep, lg, A9, n9, c9, l9, b, rfl, rfl, BX, IX, hn9, HB9, BW⟩ := hcut
    have BW := Lib.hid BW
    have A5 := Lib.hid (A4.out.below BW.out A4.out.lt)
    have B5 := Lib.hid (B4.out.below BW.out B4.out.lt)
    have I5 := Lib.hid (I4.out.below BW.out)
    have J5 := Lib.hid (J4.out.below BW.out)
    have X5 := Lib.hid BX
    have Y5 := Lib.hid IX
    have O5 := Lib.hid (bstep O4.out BW.out)
    have npl : (natI p).length = n := I4.out.1
    have nql : (natI q).length = n' := J4.out.1
    have HK := Lib.hid (show ∀ W', Below wc.heap.size wc W' → (W'.cell? ⟨w.heap.size, 0, none⟩ = some (.int .i64 ea) ∧ W'.cell? ⟨w.heap.size, 1, none⟩ = some (.int .i64 (la : Int)) ∧ W'.cell? ⟨w.heap.size, 2, none⟩ = some (.slice A n c) ∧ W'.cell? ⟨w.heap.size + 1, 0, none⟩ = some (.int .i64 eb) ∧ W'.cell? ⟨w.heap.size + 1, 1, none⟩ = some (.int .i64 (lb : Int)) ∧ W'.cell? ⟨w.heap.size + 1, 2, none⟩ = some (.slice A' n' c') ∧ W'.cell? ⟨g, 0, none⟩ = some (.int .i64 ep) ∧ W'.cell? ⟨g, 1, none⟩ = some (.int .i64 lg) ∧ W'.cell? ⟨g, 2, none⟩ = some (.slice A9 n9 c9)) from fun W' ho => ⟨(A5.out.below ho A5.out.lt).cell_some (i := 0) rfl, (A5.out.below ho A5.out.lt).cell_some (i := 1) rfl, (A5.out.below ho A5.out.lt).cell_some (i := 2) rfl, (B5.out.below ho B5.out.lt).cell_some (i := 0) rfl, (B5.out.below ho B5.out.lt).cell_some (i := 1) rfl, (B5.out.below ho B5.out.lt).cell_some (i := 2) rfl, (X5.out.below ho X5.out.lt).cell_some (i := 0) rfl, (X5.out.below ho X5.out.lt).cell_some (i := 1) rfl, (X5.out.below ho X5.out.lt).cell_some (i := 2) rfl⟩)
    have OD := Lib.hid ((Below.refl wc.heap.size wc).drew)
    clear BX IX npl nql
    cases b
    · go_wp2_with fail
      refine wp_region_held_drew (S := fun W' => W'.cell? ⟨w.heap.size, 0, none⟩ = some (.int .i64 ea) ∧ W'.cell? ⟨w.heap.size, 1, none⟩ = some (.int .i64 (la : Int)) ∧ W'.cell? ⟨w.heap.size, 2, none⟩ = some (.slice A n c) ∧ W'.cell? ⟨w.heap.size + 1, 0, none⟩ = some (.int .i64 eb) ∧ W'.cell? ⟨w.heap.size + 1, 1, none⟩ = some (.int .i64 (lb : Int)) ∧ W'.cell? ⟨w.heap.size + 1, 2, none⟩ = some (.slice A' n' c') ∧ W'.cell? ⟨g, 0, none⟩ = some (.int .i64 ep) ∧ W'.cell? ⟨g, 1, none⟩ = some (.int .i64 lg) ∧ W'.cell? ⟨g, 2, none⟩ = some (.slice A9 n9 c9)) (by kernel_rfl) (HK.out _ OD.out) (fun hHeld => ?_)
      refine wpAnyH_ready (rs := [0]) (by kernel_rfl) (by simp) ?_
      refine AllReadyH.cons (o := ⟨some 83, _, _, _, _, _⟩) rfl (fun K hK => ?_) AllReadyH.nil
      go_simp
      go_at_call 5
      refine (awake13_any _).mono ?_
      rintro e v1 ⟨rfl, hv1⟩
      have P1 := Lib.hid (bstep OD.out hv1)
      go_simp
      refine hK.out _ _ (HK.out _ P1.out) (fun hHeld => ?_)
      try simp only [Act.put, List.setIfInBounds_toArray, List.set_cons_zero, List.set_cons_succ]
      refine wpAnyH_take (i := 1) (oi := ⟨some 84, _, _, _, _, _⟩) (v := ?_) rfl (by kernel_rfl) (by kernel_rfl) (by kernel_rfl) (fun _ _ _ h => h) (Or.inl ⟨by kernel_rfl, ?_⟩) (by assumption) ?_
      rotate_left
      · (intro w hSw; (try dsimp only at hSw); go_simp; (try (with_reducible rfl)))
      try simp only [Act.put, List.setIfInBounds_toArray, List.set_cons_zero, List.set_cons_succ]
      refine wpAnyH_take (i := 2) (oi := ⟨some 85, _, _, _, _, _⟩) (v := ?_) rfl (by kernel_rfl) (by kernel_rfl) (by kernel_rfl) (fun _ _ _ h => h) (Or.inl ⟨by kernel_rfl, ?_⟩) (by assumption) ?_
      rotate_left
      · (intro w hSw; (try dsimp only at hSw); go_simp; (try (with_reducible rfl)))
      try simp only [Act.put, List.setIfInBounds_toArray, List.set_cons_zero, List.set_cons_succ]
      refine wpAnyH_take (i := 3) (oi := ⟨some 86, _, _, _, _, _⟩) (v := ?_) rfl (by kernel_rfl) (by kernel_rfl) (by kernel_rfl) (fun _ _ _ h => h) (Or.inl ⟨by kernel_rfl, ?_⟩) (by assumption) ?_
      rotate_left
      · (intro w hSw; (try dsimp only at hSw); go_simp; (try (with_reducible rfl)))
      try simp only [Act.put, List.setIfInBounds_toArray, List.set_cons_zero, List.set_cons_succ]
      refine wpAnyH_take (i := 4) (oi := ⟨some 87, _, _, _, _, _⟩) (v := ?_) rfl (by kernel_rfl) (by kernel_rfl) (by kernel_rfl) (fun _ _ _ h => h) (Or.inl ⟨by kernel_rfl, ?_⟩) (by assumption) ?_
      rotate_left
      · (intro w hSw; (try dsimp only at hSw); go_simp; (try (with_reducible rfl)))
      try simp only [Act.put, List.setIfInBounds_toArray, List.set_cons_zero, List.set_cons_succ]
      refine wpAnyH_take (i := 5) (oi := ⟨some 88, _, _, _, _, _⟩) (v := undef) rfl (by kernel_rfl) (by kernel_rfl) (by kernel_rfl) (fun _ _ _ h => h) (Or.inr ⟨by kernel_rfl, rfl⟩) (by assumption) ?_
      try simp only [Act.put, List.setIfInBounds_toArray, List.set_cons_zero, List.set_cons_succ]
      refine wpAnyH_take (i := 6) (oi := ⟨some 89, _, _, _, _, _⟩) (v := undef) rfl (by kernel_rfl) (by kernel_rfl) (by kernel_rfl) (fun _ _ _ h => h) (Or.inr ⟨by kernel_rfl, rfl⟩) (by assumption) ?_
      try simp only [Act.put, List.setIfInBounds_toArray, List.set_cons_zero, List.set_cons_succ]
      refine wpAnyH_take (i := 7) (oi := ⟨some 90, _, _, _, _, _⟩) (v := undef) rfl (by kernel_rfl) (by kernel_rfl) (by kernel_rfl) (fun _ _ _ h => h) (Or.inr ⟨by kernel_rfl, rfl⟩) (by assumption) ?_
      try simp only [Act.put, List.setIfInBounds_toArray, List.set_cons_zero, List.set_cons_succ]
      refine wpAnyH_take (i := 8) (oi := ⟨some 91, _, _, _, _, _⟩) (v := undef) rfl (by kernel_rfl) (by kernel_rfl) (by kernel_rfl) (fun _ _ _ h => h) (Or.inr ⟨by kernel_rfl, rfl⟩) (by assumption) ?_
      try simp only [Act.put, List.setIfInBounds_toArray, List.set_cons_zero, List.set_cons_succ]
      refine wpAnyH_take (i := 9) (oi := ⟨some 92, _, _, _, _, _⟩) (v := ?_) rfl (by kernel_rfl) (by kernel_rfl) (by kernel_rfl) (fun _ _ _ h => h) (Or.inl ⟨by kernel_rfl, ?_⟩) (by assumption) ?_
      rotate_left
      · (intro w hSw; (try dsimp only at hSw); go_simp; (try (with_reducible rfl)))
      try simp only [Act.put, List.setIfInBounds_toArray, List.set_cons_zero, List.set_cons_succ]
      refine wpAnyH_take (i := 10) (oi := ⟨some 93, _, _, _, _, _⟩) (v := ?_) rfl (by kernel_rfl) (by kernel_rfl) (by kernel_rfl) (fun _ _ _ h => h) (Or.inl ⟨by kernel_rfl, ?_⟩) (by assumption) ?_
      rotate_left
      · (intro w hSw; (try dsimp only at hSw); go_simp; (try (with_reducible rfl)))
      try simp only [Act.put, List.setIfInBounds_toArray, List.set_cons_zero, List.set_cons_succ]
      refine wpAnyH_take (i := 11) (oi := ⟨some 94, _, _, _, _, _⟩) (v := undef) rfl (by kernel_rfl) (by kernel_rfl) (by kernel_rfl) (fun _ _ _ h => h) (Or.inr ⟨by kernel_rfl, rfl⟩) (by assumption) ?_
      try simp only [Act.put, List.setIfInBounds_toArray, List.set_cons_zero, List.set_cons_succ]
      refine wpAnyH_take (i := 12) (oi := ⟨some 95, _, _, _, _, _⟩) (v := undef) rfl (by kernel_rfl) (by kernel_rfl) (by kernel_rfl) (fun _ _ _ h => h) (Or.inr ⟨by kernel_rfl, rfl⟩) (by assumption) ?_
      try simp only [Act.put, List.setIfInBounds_toArray, List.set_cons_zero, List.set_cons_succ]
      refine wpAnyH_take (i := 13) (oi := ⟨some 96, _, _, _, _, _⟩) (v := undef) rfl (by kernel_rfl) (by kernel_rfl) (by kernel_rfl) (fun _ _ _ h => h) (Or.inr ⟨by kernel_rfl, rfl⟩) (by assumption) ?_
      try simp only [Act.put, List.setIfInBounds_toArray, List.set_cons_zero, List.set_cons_succ]
      refine wpAnyH_take (i := 14) (oi := ⟨some 97, _, _, _, _, _⟩) (v := undef) rfl (by kernel_rfl) (by kernel_rfl) (by kernel_rfl) (fun _ _ _ h => h) (Or.inr ⟨by kernel_rfl, rfl⟩) (by assumption) ?_
      try simp only [Act.put, List.setIfInBounds_toArray, List.set_cons_zero, List.set_cons_succ]
      refine wpAnyH_take (i := 15) (oi := ⟨some 98, _, _, _, _, _⟩) (v := ?_) rfl (by kernel_rfl) (by kernel_rfl) (by kernel_rfl) (fun _ _ _ h => h) (Or.inl ⟨by kernel_rfl, ?_⟩) (by assumption) ?_
      rotate_left
      · (intro w hSw; (try dsimp only at hSw); go_simp; (try (with_reducible rfl)))
      try simp only [Act.put, List.setIfInBounds_toArray, List.set_cons_zero, List.set_cons_succ]
      refine wpAnyH_take (i := 16) (oi := ⟨some 99, _, _, _, _, _⟩) (v := ?_) rfl (by kernel_rfl) (by kernel_rfl) (by kernel_rfl) (fun _ _ _ h => h) (Or.inl ⟨by kernel_rfl, ?_⟩) (by assumption) ?_
      rotate_left
      · (intro w hSw; (try dsimp only at hSw); go_simp; (try (with_reducible rfl)))
      try simp only [Act.put, List.setIfInBounds_toArray, List.set_cons_zero, List.set_cons_succ]
      refine wpAnyH_take (i := 17) (oi := ⟨some 6, _, _, _, _, _⟩) (v := ?_) rfl (by kernel_rfl) (by kernel_rfl) (by kernel_rfl) (fun _ _ _ h => h) (Or.inl ⟨by kernel_rfl, ?_⟩) (by assumption) ?_
      rotate_left
      · (intro w hSw; (try dsimp only at hSw); go_simp; (try (with_reducible rfl)))
      try simp only [Act.put, List.setIfInBounds_toArray, List.set_cons_zero, List.set_cons_succ]
      refine wpAnyH_done (by kernel_rfl) ?_ _
      have PP := Lib.hid (bstep O5.out P1.out)
      go_wp2_with fail
      go_ret
      exact ⟨by first | rfl | simp, PP.out⟩
    · rcases HB9.out (by first | rfl | trivial) with ⟨e1', rfl, rfl⟩ | ⟨e1', rfl, rfl⟩
      · obtain rfl := e1'.symm
        go_wp2_with fail
        refine wp_region_held_drew (S := fun W' => W'.cell? ⟨w.heap.size, 0, none⟩ = some (.int .i64 ea) ∧ W'.cell? ⟨w.heap.size, 1, none⟩ = some (.int .i64 (la : Int)) ∧ W'.cell? ⟨w.heap.size, 2, none⟩ = some (.slice A n c) ∧ W'.cell? ⟨w.heap.size + 1, 0, none⟩ = some (.int .i64 eb) ∧ W'.cell? ⟨w.heap.size + 1, 1, none⟩ = some (.int .i64 (lb : Int)) ∧ W'.cell? ⟨w.heap.size + 1, 2, none⟩ = some (.slice A' n' c') ∧ W'.cell? ⟨g, 0, none⟩ = some (.int .i64 ea) ∧ W'.cell? ⟨g, 1, none⟩ = some (.int .i64 (la : Int)) ∧ W'.cell? ⟨g, 2, none⟩ = some (.slice A9 n9 c9)) (by kernel_rfl) (HK.out _ OD.out) (fun hHeld => ?_)
        refine wpAnyH_ready (rs := [0]) (by kernel_rfl) (by simp) ?_
        refine AllReadyH.cons (o := ⟨some 83, _, _, _, _, _⟩) rfl (fun K hK => ?_) AllReadyH.nil
        go_simp
        go_at_call 5
        refine (awake13_any _).mono ?_
        rintro e v1 ⟨rfl, hv1⟩
        have P1 := Lib.hid (bstep OD.out hv1)
        go_simp
        refine hK.out _ _ (HK.out _ P1.out) (fun hHeld => ?_)
        try simp only [Act.put, List.setIfInBounds_toArray, List.set_cons_zero, List.set_cons_succ]
        refine wpAnyH_take (i := 1) (oi := ⟨some 84, _, _, _, _, _⟩) (v := ?_) rfl (by kernel_rfl) (by kernel_rfl) (by kernel_rfl) (fun _ _ _ h => h) (Or.inl ⟨by kernel_rfl, ?_⟩) (by assumption) ?_
        rotate_left
        · (intro w hSw; (try dsimp only at hSw); go_simp; (try (with_reducible rfl)))
        try simp only [Act.put, List.setIfInBounds_toArray, List.set_cons_zero, List.set_cons_succ]
        refine wpAnyH_take (i := 2) (oi := ⟨some 85, _, _, _, _, _⟩) (v := ?_) rfl (by kernel_rfl) (by kernel_rfl) (by kernel_rfl) (fun _ _ _ h => h) (Or.inl ⟨by kernel_rfl, ?_⟩) (by assumption) ?_
        rotate_left
        · (intro w hSw; (try dsimp only at hSw); go_simp; (try (with_reducible rfl)))
        try simp only [Act.put, List.setIfInBounds_toArray, List.set_cons_zero, List.set_cons_succ]
        refine wpAnyH_take (i := 3) (oi := ⟨some 86, _, _, _, _, _⟩) (v := ?_) rfl (by kernel_rfl) (by kernel_rfl) (by kernel_rfl) (fun _ _ _ h => h) (Or.inl ⟨by kernel_rfl, ?_⟩) (by assumption) ?_
        rotate_left
        · (intro w hSw; (try dsimp only at hSw); go_simp; (try (with_reducible rfl)))
        try simp only [Act.put, List.setIfInBounds_toArray, List.set_cons_zero, List.set_cons_succ]
        refine wpAnyH_take (i := 4) (oi := ⟨some 87, _, _, _, _, _⟩) (v := ?_) rfl (by kernel_rfl) (by kernel_rfl) (by kernel_rfl) (fun _ _ _ h => h) (Or.inl ⟨by kernel_rfl, ?_⟩) (by assumption) ?_
        rotate_left
        · (intro w hSw; (try dsimp only at hSw); go_simp; (try (with_reducible rfl)))
        try simp only [Act.put, List.setIfInBounds_toArray, List.set_cons_zero, List.set_cons_succ]
        refine wpAnyH_take (i := 5) (oi := ⟨some 88, _, _, _, _, _⟩) (v := ?_) rfl (by kernel_rfl) (by kernel_rfl) (by kernel_rfl) (fun _ _ _ h => h) (Or.inl ⟨by kernel_rfl, ?_⟩) (by assumption) ?_
        rotate_left
        · (intro w hSw; (try dsimp only at hSw); go_simp; (try (with_reducible rfl)))
        try simp only [Act.put, List.setIfInBounds_toArray, List.set_cons_zero, List.set_cons_succ]
        refine wpAnyH_take (i := 7) (oi := ⟨some 90, _, _, _, _, _⟩) (v := ?_) rfl (by kernel_rfl) (by kernel_rfl) (by kernel_rfl) (fun _ _ _ h => h) (Or.inl ⟨by kernel_rfl, ?_⟩) (by assumption) ?_
        rotate_left
        · (intro w hSw; (try dsimp only at hSw); go_simp; (try (with_reducible rfl)))
        try simp only [Act.put, List.setIfInBounds_toArray, List.set_cons_zero, List.set_cons_succ]
        refine wpAnyH_ready (rs := [6]) (by kernel_rfl) (by simp) ?_
        refine AllReadyH.cons (o := ⟨some 89, _, _, _, _, _⟩) rfl (fun K hK => ?_) AllReadyH.nil
        go_simp
        go_at_call 10
        have KO := of13_any (w := v1) ea (la : Int) A9 n9 c9
        unfold rootV at KO
        refine KO.mono ?_
        rintro e v2 ⟨rfl, hv2⟩
        have P2 := Lib.hid (bstep P1.out hv2)
        go_simp
        refine hK.out _ _ (HK.out _ P2.out) (fun hHeld => ?_)
        try simp only [Act.put, List.setIfInBounds_toArray, List.set_cons_zero, List.set_cons_succ]
        refine wpAnyH_ready (rs := [8]) (by kernel_rfl) (by simp) ?_
        refine AllReadyH.cons (o := ⟨some 91, _, _, _, _, _⟩) rfl (fun K hK => ?_) AllReadyH.nil
        go_simp
        go_at_call 9
        have KS := same13_any (w := v2) ea (la : Int) ea (la : Int) A9 A n9 c9 n c (natI p) (natI p) (Y5.out.below P2.out) (I5.out.below P2.out) (by omega) (by omega) true (by simp)
        unfold rootV at KS
        refine KS.mono ?_
        rintro e v3 ⟨rfl, hv3⟩
        have P3 := Lib.hid (bstep P2.out hv3)
        go_simp
        refine hK.out _ _ (HK.out _ P3.out) (fun hHeld => ?_)
        try simp only [Act.put, List.setIfInBounds_toArray, List.set_cons_zero, List.set_cons_succ]
        refine wpAnyH_take (i := 9) (oi := ⟨some 92, _, _, _, _, _⟩) (v := ?_) rfl (by kernel_rfl) (by kernel_rfl) (by kernel_rfl) (fun _ _ _ h => h) (Or.inl ⟨by kernel_rfl, ?_⟩) (by assumption) ?_
        rotate_left
        · (intro w hSw; (try dsimp only at hSw); go_simp; (try (with_reducible rfl)))
        try simp only [Act.put, List.setIfInBounds_toArray, List.set_cons_zero, List.set_cons_succ]
        refine wpAnyH_take (i := 10) (oi := ⟨some 93, _, _, _, _, _⟩) (v := ?_) rfl (by kernel_rfl) (by kernel_rfl) (by kernel_rfl) (fun _ _ _ h => h) (Or.inl ⟨by kernel_rfl, ?_⟩) (by assumption) ?_
        rotate_left
        · (intro w hSw; (try dsimp only at hSw); go_simp; (try (with_reducible rfl)))
        try simp only [Act.put, List.setIfInBounds_toArray, List.set_cons_zero, List.set_cons_succ]
        refine wpAnyH_take (i := 11) (oi := ⟨some 94, _, _, _, _, _⟩) (v := undef) rfl (by kernel_rfl) (by kernel_rfl) (by kernel_rfl) (fun _ _ _ h => h) (Or.inr ⟨by kernel_rfl, rfl⟩) (by assumption) ?_
        try simp only [Act.put, List.setIfInBounds_toArray, List.set_cons_zero, List.set_cons_succ]
        refine wpAnyH_take (i := 12) (oi := ⟨some 95, _, _, _, _, _⟩) (v := undef) rfl (by kernel_rfl) (by kernel_rfl) (by kernel_rfl) (fun _ _ _ h => h) (Or.inr ⟨by kernel_rfl, rfl⟩) (by assumption) ?_
        try simp only [Act.put, List.setIfInBounds_toArray, List.set_cons_zero, List.set_cons_succ]
        refine wpAnyH_take (i := 13) (oi := ⟨some 96, _, _, _, _, _⟩) (v := undef) rfl (by kernel_rfl) (by kernel_rfl) (by kernel_rfl) (fun _ _ _ h => h) (Or.inr ⟨by kernel_rfl, rfl⟩) (by assumption) ?_
        try simp only [Act.put, List.setIfInBounds_toArray, List.set_cons_zero, List.set_cons_succ]
        refine wpAnyH_take (i := 14) (oi := ⟨some 97, _, _, _, _, _⟩) (v := undef) rfl (by kernel_rfl) (by kernel_rfl) (by kernel_rfl) (fun _ _ _ h => h) (Or.inr ⟨by kernel_rfl, rfl⟩) (by assumption) ?_
        try simp only [Act.put, List.setIfInBounds_toArray, List.set_cons_zero, List.set_cons_succ]
        refine wpAnyH_take (i := 15) (oi := ⟨some 98, _, _, _, _, _⟩) (v := ?_) rfl (by kernel_rfl) (by kernel_rfl) (by kernel_rfl) (fun _ _ _ h => h) (Or.inl ⟨by kernel_rfl, ?_⟩) (by assumption) ?_
        rotate_left
        · (intro w hSw; (try dsimp only at hSw); go_simp; (try (with_reducible rfl)))
        try simp only [Act.put, List.setIfInBounds_toArray, List.set_cons_zero, List.set_cons_succ]
        refine wpAnyH_take (i := 16) (oi := ⟨some 99, _, _, _, _, _⟩) (v := ?_) rfl (by kernel_rfl) (by kernel_rfl) (by kernel_rfl) (fun _ _ _ h => h) (Or.inl ⟨by kernel_rfl, ?_⟩) (by assumption) ?_
        rotate_left
        · (intro w hSw; (try dsimp only at hSw); go_simp; (try (with_reducible rfl)))
        try simp only [Act.put, List.setIfInBounds_toArray, List.set_cons_zero, List.set_cons_succ]
        refine wpAnyH_take (i := 17) (oi := ⟨some 6, _, _, _, _, _⟩) (v := ?_) rfl (by kernel_rfl) (by kernel_rfl) (by kernel_rfl) (fun _ _ _ h => h) (Or.inl ⟨by kernel_rfl, ?_⟩) (by assumption) ?_
        rotate_left
        · (intro w hSw; (try dsimp only at hSw); go_simp; (try (with_reducible rfl)))
        try simp only [Act.put, List.setIfInBounds_toArray, List.set_cons_zero, List.set_cons_succ]
        refine wpAnyH_done (by kernel_rfl) ?_ _
        have PP := Lib.hid (bstep O5.out P3.out)
        go_wp2_with fail
        go_ret
        exact ⟨by first | rfl | simp, PP.out⟩
      · obtain rfl := e1'.symm
        go_wp2_with fail
        refine wp_region_held_drew (S := fun W' => W'.cell? ⟨w.heap.size, 0, none⟩ = some (.int .i64 ea) ∧ W'.cell? ⟨w.heap.size, 1, none⟩ = some (.int .i64 (la : Int)) ∧ W'.cell? ⟨w.heap.size, 2, none⟩ = some (.slice A n c) ∧ W'.cell? ⟨w.heap.size + 1, 0, none⟩ = some (.int .i64 eb) ∧ W'.cell? ⟨w.heap.size + 1, 1, none⟩ = some (.int .i64 (lb : Int)) ∧ W'.cell? ⟨w.heap.size + 1, 2, none⟩ = some (.slice A' n' c') ∧ W'.cell? ⟨g, 0, none⟩ = some (.int .i64 eb) ∧ W'.cell? ⟨g, 1, none⟩ = some (.int .i64 (lb : Int)) ∧ W'.cell? ⟨g, 2, none⟩ = some (.slice A9 n9 c9)) (by kernel_rfl) (HK.out _ OD.out) (fun hHeld => ?_)
        refine wpAnyH_ready (rs := [0]) (by kernel_rfl) (by simp) ?_
        refine AllReadyH.cons (o := ⟨some 83, _, _, _, _, _⟩) rfl (fun K hK => ?_) AllReadyH.nil
        go_simp
        go_at_call 5
        refine (awake13_any _).mono ?_
        rintro e v1 ⟨rfl, hv1⟩
        have P1 := Lib.hid (bstep OD.out hv1)
        go_simp
        refine hK.out _ _ (HK.out _ P1.out) (fun hHeld => ?_)
        try simp only [Act.put, List.setIfInBounds_toArray, List.set_cons_zero, List.set_cons_succ]
        refine wpAnyH_take (i := 1) (oi := ⟨some 84, _, _, _, _, _⟩) (v := ?_) rfl (by kernel_rfl) (by kernel_rfl) (by kernel_rfl) (fun _ _ _ h => h) (Or.inl ⟨by kernel_rfl, ?_⟩) (by assumption) ?_
        rotate_left
        · (intro w hSw; (try dsimp only at hSw); go_simp; (try (with_reducible rfl)))
        try simp only [Act.put, List.setIfInBounds_toArray, List.set_cons_zero, List.set_cons_succ]
        refine wpAnyH_take (i := 2) (oi := ⟨some 85, _, _, _, _, _⟩) (v := ?_) rfl (by kernel_rfl) (by kernel_rfl) (by kernel_rfl) (fun _ _ _ h => h) (Or.inl ⟨by kernel_rfl, ?_⟩) (by assumption) ?_
        rotate_left
        · (intro w hSw; (try dsimp only at hSw); go_simp; (try (with_reducible rfl)))
        try simp only [Act.put, List.setIfInBounds_toArray, List.set_cons_zero, List.set_cons_succ]
        refine wpAnyH_take (i := 3) (oi := ⟨some 86, _, _, _, _, _⟩) (v := ?_) rfl (by kernel_rfl) (by kernel_rfl) (by kernel_rfl) (fun _ _ _ h => h) (Or.inl ⟨by kernel_rfl, ?_⟩) (by assumption) ?_
        rotate_left
        · (intro w hSw; (try dsimp only at hSw); go_simp; (try (with_reducible rfl)))
        try simp only [Act.put, List.setIfInBounds_toArray, List.set_cons_zero, List.set_cons_succ]
        refine wpAnyH_take (i := 4) (oi := ⟨some 87, _, _, _, _, _⟩) (v := ?_) rfl (by kernel_rfl) (by kernel_rfl) (by kernel_rfl) (fun _ _ _ h => h) (Or.inl ⟨by kernel_rfl, ?_⟩) (by assumption) ?_
        rotate_left
        · (intro w hSw; (try dsimp only at hSw); go_simp; (try (with_reducible rfl)))
        try simp only [Act.put, List.setIfInBounds_toArray, List.set_cons_zero, List.set_cons_succ]
        refine wpAnyH_take (i := 5) (oi := ⟨some 88, _, _, _, _, _⟩) (v := ?_) rfl (by kernel_rfl) (by kernel_rfl) (by kernel_rfl) (fun _ _ _ h => h) (Or.inl ⟨by kernel_rfl, ?_⟩) (by assumption) ?_
        rotate_left
        · (intro w hSw; (try dsimp only at hSw); go_simp; (try (with_reducible rfl)))
        try simp only [Act.put, List.setIfInBounds_toArray, List.set_cons_zero, List.set_cons_succ]
        refine wpAnyH_take (i := 7) (oi := ⟨some 90, _, _, _, _, _⟩) (v := ?_) rfl (by kernel_rfl) (by kernel_rfl) (by kernel_rfl) (fun _ _ _ h => h) (Or.inl ⟨by kernel_rfl, ?_⟩) (by assumption) ?_
        rotate_left
        · (intro w hSw; (try dsimp only at hSw); go_simp; (try (with_reducible rfl)))
        try simp only [Act.put, List.setIfInBounds_toArray, List.set_cons_zero, List.set_cons_succ]
        refine wpAnyH_ready (rs := [6]) (by kernel_rfl) (by simp) ?_
        refine AllReadyH.cons (o := ⟨some 89, _, _, _, _, _⟩) rfl (fun K hK => ?_) AllReadyH.nil
        go_simp
        go_at_call 10
        have KO := of13_any (w := v1) eb (lb : Int) A9 n9 c9
        unfold rootV at KO
        refine KO.mono ?_
        rintro e v2 ⟨rfl, hv2⟩
        have P2 := Lib.hid (bstep P1.out hv2)
        go_simp
        refine hK.out _ _ (HK.out _ P2.out) (fun hHeld => ?_)
        try simp only [Act.put, List.setIfInBounds_toArray, List.set_cons_zero, List.set_cons_succ]
        refine wpAnyH_ready (rs := [8]) (by kernel_rfl) (by simp) ?_
        refine AllReadyH.cons (o := ⟨some 91, _, _, _, _, _⟩) rfl (fun K hK => ?_) AllReadyH.nil
        go_simp
        go_at_call 9
        have KS := same13_any (w := v2) eb (lb : Int) ea (la : Int) A9 A n9 c9 n c (natI q) (natI p) (Y5.out.below P2.out) (I5.out.below P2.out) (by omega) (by omega) false (by simp [Ne.symm h3])
        unfold rootV at KS
        refine KS.mono ?_
        rintro e v3 ⟨rfl, hv3⟩
        have P3 := Lib.hid (bstep P2.out hv3)
        go_simp
        refine hK.out _ _ (HK.out _ P3.out) (fun hHeld => ?_)
        try simp only [Act.put, List.setIfInBounds_toArray, List.set_cons_zero, List.set_cons_succ]
        refine wpAnyH_take (i := 9) (oi := ⟨some 92, _, _, _, _, _⟩) (v := ?_) rfl (by kernel_rfl) (by kernel_rfl) (by kernel_rfl) (fun _ _ _ h => h) (Or.inl ⟨by kernel_rfl, ?_⟩) (by assumption) ?_
        rotate_left
        · (intro w hSw; (try dsimp only at hSw); go_simp; (try (with_reducible rfl)))
        try simp only [Act.put, List.setIfInBounds_toArray, List.set_cons_zero, List.set_cons_succ]
        refine wpAnyH_take (i := 10) (oi := ⟨some 93, _, _, _, _, _⟩) (v := ?_) rfl (by kernel_rfl) (by kernel_rfl) (by kernel_rfl) (fun _ _ _ h => h) (Or.inl ⟨by kernel_rfl, ?_⟩) (by assumption) ?_
        rotate_left
        · (intro w hSw; (try dsimp only at hSw); go_simp; (try (with_reducible rfl)))
        try simp only [Act.put, List.setIfInBounds_toArray, List.set_cons_zero, List.set_cons_succ]
        refine wpAnyH_take (i := 11) (oi := ⟨some 94, _, _, _, _, _⟩) (v := ?_) rfl (by kernel_rfl) (by kernel_rfl) (by kernel_rfl) (fun _ _ _ h => h) (Or.inl ⟨by kernel_rfl, ?_⟩) (by assumption) ?_
        rotate_left
        · (intro w hSw; (try dsimp only at hSw); go_simp; (try (with_reducible rfl)))
        try simp only [Act.put, List.setIfInBounds_toArray, List.set_cons_zero, List.set_cons_succ]
        refine wpAnyH_take (i := 13) (oi := ⟨some 96, _, _, _, _, _⟩) (v := ?_) rfl (by kernel_rfl) (by kernel_rfl) (by kernel_rfl) (fun _ _ _ h => h) (Or.inl ⟨by kernel_rfl, ?_⟩) (by assumption) ?_
        rotate_left
        · (intro w hSw; (try dsimp only at hSw); go_simp; (try (with_reducible rfl)))
        try simp only [Act.put, List.setIfInBounds_toArray, List.set_cons_zero, List.set_cons_succ]
        refine wpAnyH_ready (rs := [12]) (by kernel_rfl) (by simp) ?_
        refine AllReadyH.cons (o := ⟨some 95, _, _, _, _, _⟩) rfl (fun K hK => ?_) AllReadyH.nil
        go_simp
        go_at_call 10
        have KO := of13_any (w := v3) eb (lb : Int) A9 n9 c9
        unfold rootV at KO
        refine KO.mono ?_
        rintro e v4 ⟨rfl, hv4⟩
        have P4 := Lib.hid (bstep P3.out hv4)
        go_simp
        refine hK.out _ _ (HK.out _ P4.out) (fun hHeld => ?_)
        try simp only [Act.put, List.setIfInBounds_toArray, List.set_cons_zero, List.set_cons_succ]
        refine wpAnyH_ready (rs := [14]) (by kernel_rfl) (by simp) ?_
        refine AllReadyH.cons (o := ⟨some 97, _, _, _, _, _⟩) rfl (fun K hK => ?_) AllReadyH.nil
        go_simp
        go_at_call 9
        have KS := same13_any (w := v4) eb (lb : Int) eb (lb : Int) A9 A' n9 c9 n' c' (natI q) (natI q) (Y5.out.below P4.out) (J5.out.below P4.out) (by omega) (by omega) true (by simp)
        unfold rootV at KS
        refine KS.mono ?_
        rintro e v5 ⟨rfl, hv5⟩
        have P5 := Lib.hid (bstep P4.out hv5)
        go_simp
        refine hK.out _ _ (HK.out _ P5.out) (fun hHeld => ?_)
        try simp only [Act.put, List.setIfInBounds_toArray, List.set_cons_zero, List.set_cons_succ]
        refine wpAnyH_take (i := 15) (oi := ⟨some 98, _, _, _, _, _⟩) (v := ?_) rfl (by kernel_rfl) (by kernel_rfl) (by kernel_rfl) (fun _ _ _ h => h) (Or.inl ⟨by kernel_rfl, ?_⟩) (by assumption) ?_
        rotate_left
        · (intro w hSw; (try dsimp only at hSw); go_simp; (try (with_reducible rfl)))
        try simp only [Act.put, List.setIfInBounds_toArray, List.set_cons_zero, List.set_cons_succ]
        refine wpAnyH_take (i := 16) (oi := ⟨some 99, _, _, _, _, _⟩) (v := ?_) rfl (by kernel_rfl) (by kernel_rfl) (by kernel_rfl) (fun _ _ _ h => h) (Or.inl ⟨by kernel_rfl, ?_⟩) (by assumption) ?_
        rotate_left
        · (intro w hSw; (try dsimp only at hSw); go_simp; (try (with_reducible rfl)))
        try simp only [Act.put, List.setIfInBounds_toArray, List.set_cons_zero, List.set_cons_succ]
        refine wpAnyH_take (i := 17) (oi := ⟨some 6, _, _, _, _, _⟩) (v := ?_) rfl (by kernel_rfl) (by kernel_rfl) (by kernel_rfl) (fun _ _ _ h => h) (Or.inl ⟨by kernel_rfl, ?_⟩) (by assumption) ?_
        rotate_left
        · (intro w hSw; (try dsimp only at hSw); go_simp; (try (with_reducible rfl)))
        try simp only [Act.put, List.setIfInBounds_toArray, List.set_cons_zero, List.set_cons_succ]
        refine wpAnyH_done (by kernel_rfl) ?_ _
        have PP := Lib.hid (bstep O5.out P5.out)
        go_wp2_with fail
        go_ret
        exact ⟨by first | rfl | simp, PP.out⟩
theorem walk {H : Type} {enc : TypeId × Value → H} {w : World} {base : Nat} {v : Value} {d : DataW H} {ps : List MemPlace} (hok : Value.okWide Try.prog w .any base 24 v) (h : DataW.Trod enc Try.prog w 0 (fun _ => true) true 24 v d ps)
    {base' : Nat} {v' : Value} {d' : DataW H} {ps' : List MemPlace} (hok' : Value.okWide Try.prog w .any base' 24 v') (h' : DataW.Trod enc Try.prog w 0 (fun _ => true) true 24 v' d' ps') (cut : Int) (wn : (Lit.int .u8 cut).wf = true) :
    Calls Try.prog 3 #[v, v', .int .u8 cut] w fun e w' => e = .returned (.bool true) ∧ Below w.heap.size w w' := by
  obtain ⟨ea, la, A, n, c, l, rfl, hnc, hnm, hI⟩ := root_of hok h
  obtain ⟨eb, lb, A', n', c', l', rfl, hnc', hnm', hJ⟩ := root_of hok' h'
  have hb := Go.bounds_u8 wn
  obtain ⟨N, rfl⟩ := Int.eq_ofNat_of_zero_le hb.1
  have hN : N ≤ 255 := by omega
  have hn : n ≤ 9223372036854775807 := by unfold maxLen at hnm; omega
  have hn' : n' ≤ 9223372036854775807 := by unfold maxLen at hnm'; omega
  by_cases h1 : 40 < n
  · exact walk_idle ea la A n c l eb lb A' n' c' l' hI hJ hn hn' hnc hnc' N hN (.inl h1)
  by_cases h2 : 40 < n'
  · exact walk_idle ea la A n c l eb lb A' n' c' l' hI hJ hn hn' hnc hnc' N hN (.inr (.inl ⟨h1, h2⟩))
  by_cases h3 : ea = eb
  · exact walk_idle ea la A n c l eb lb A' n' c' l' hI hJ hn hn' hnc hnc' N hN (.inr (.inr ⟨h1, h2, h3⟩))
  by_cases ra : rightR ea la l
  · by_cases rb : rightR eb lb l'
    · obtain ⟨laN, p, rfl, rfl⟩ := nat_parts ra
      obtain ⟨lbN, q, rfl, rfl⟩ := nat_parts rb
      exact walk_good ea laN A n c p eb lbN A' n' c' q hI hJ hn hn' hnc hnc' N hN h1 h2 h3 ra rb
    · obtain ⟨laN, p, rfl, rfl⟩ := nat_parts ra
      exact walk_badB ea laN A n c p eb lb A' n' c' l' hI hJ hn hn' hnc hnc' N hN h1 h2 h3 ra rb
  · exact walk_badA ea la A n c l eb lb A' n' c' l' hI hJ hn hn' hnc hnc' N hN h1 h2 h3 ra

set_option maxRecDepth 100000 in
theorem contract (H : Type) (enc : TypeId × Value → H) (W : World) (base : Nat) (args : Array Value) (ds gs : List (DataW H)) (before : List MemPlace)
    (hval0 : ∀ (j : Nat) t v, Try.f3.params[j]? = some t → args[j]? = some v → Value.okWide Try.prog W .any base t v)
    (hW : DataW.Whole enc Try.prog Try.f3.params.toList Rows.rootTornSpec.vars false W args.toList ds gs before) :
    Calls Try.prog 3 args W fun e W' => ∃ v, e = .returned v ∧ Rows.rootTornSpec.post enc Try.prog Try.f3 false true false false W args v W' := by
  have hval := hval0
  have hW' := hW
  obtain ⟨p, q, hA0, hV, rfl, hfz, hnd⟩ := hW
  have hA : DataW.TrodAll enc Try.prog W 0 (fun _ => true) true Try.f3.params.toList args.toList ds p := hA0
  have hlt : ∀ x ∈ p, x.block < W.heap.size := fun x hx => by simpa using hW'.lt x (List.mem_append_left _ hx)
  rw [Try.params3] at hA hval
  obtain ⟨v0, vs0, d0, ds0, p0, q0, hargs, rfl, rfl, h0, r0⟩ := trodAll_cons hA
  obtain ⟨v1, vs1, d1, ds1, p1, q1, rfl, rfl, rfl, h1, r1⟩ := trodAll_cons r0
  obtain ⟨v2, vs2, d2, ds2, p2, q2, rfl, rfl, rfl, h2, r2⟩ := trodAll_cons r1
  obtain ⟨rfl, rfl, rfl⟩ := trodAll_nil r2
  obtain rfl : args = #[v0, v1, v2] := by cases args; simp_all
  obtain ⟨rfl, rfl⟩ := trodVars_none hV
  obtain ⟨a2, rfl, rfl, rfl, w2⟩ := open_int Try.underlying5 (hval 2 5 v2 rfl rfl) h2
  refine (walk (hval 0 24 v0 rfl rfl) h0 (hval 1 24 v1 rfl rfl) h1 a2 w2 ).mono fun e W1 ⟨he, hb⟩ => ?_
  subst he
  exact ⟨_, rfl, law_post laidOut hW' rfl (by kernel_rfl) (by rfl) Try.underlying4 rfl hb⟩

set_option maxRecDepth 100000 in
theorem lifted (os : Os) (started : os.Started) (H : Type) (enc : TypeId × Value → H) :
    ReturnsInHanded {} Try.checked os 3 .any (Rows.rootTornSpec.pre6 enc Try.prog Try.f3 Rows.rootTornRow.domain false) (Rows.rootTornSpec.post enc Try.prog Try.f3 false true false false) := by
  refine returnsInHanded_of_change (C := Try.checked) own started (by kernel_rfl) Try.func3
    (ChangeSpec.witness6 (enc := enc) (C := Try.checked) false ⟨#[], #[.agg #[.int .i64 0, .int .i64 0, .slice none 0 0], .agg #[.int .i64 0, .int .i64 0, .slice none 0 0], .int .u8 0], []⟩ 8 (by kernel_rfl) (by kernel_rfl) (by kernel_rfl) (by kernel_rfl)) ?_
  intro W base args ds gs before hval0 hW hcnd _
  exact contract H enc W base args ds gs before hval0 hW

theorem proved : Rows.RootTornSaid :=
  OpenClaim.holds_of_wide 3 Try.f3 rfl rfl rfl rfl rfl rfl rfl ⟨rfl, rfl, rfl, rfl, rfl⟩ rfl rfl rfl rfl rfl (by kernel_rfl) Try.func3 (by kernel_rfl)
    (of_decide_eq_true (by kernel_rfl)) (by unfold Func.isWrapper; first | (rw [if_pos (by decide +kernel)]; kernel_rfl) | (rw [if_neg (by decide +kernel)]; exact ⟨rfl, rfl⟩))
    (fun os started H enc _ => lifted os started H enc)
#print axioms proved
end Go.Proofs.Ytemcamhkacaoiaa.rootTorn
