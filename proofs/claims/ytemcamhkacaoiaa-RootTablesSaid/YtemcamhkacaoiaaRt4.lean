/- roots: Put. -/
import Derived.Test.YtemcamhkacaoiaaRt3
import Derived.ChangeKeysEq
namespace Go.Proofs.Ytemcamhkacaoiaa.Rt
open Go.RowKit Pk
attribute [local go_sem ↓] Go.wp_at_zero Go.wp_at_succ exec_app
set_option maxRecDepth 100000 in
set_option maxHeartbeats 2000000 in
theorem rput_no {w : World} (ep lg : Int) (A : Option Addr) (n c : Nat) (l : List Int) (h : IntsAt w A n l) (hn : n ≤ 1000000) (hnc : n ≤ c) (hr : ¬ rightR ep lg l) :
    Calls Try.prog 6 #[rootV ep lg A n c] w fun e w' => e = .returned (.tuple #[.string ⟨#[]⟩, .int .i64 2]) ∧ Below w.heap.size w w' := by
  have O0 := belowAlloc (Below.refl w.heap.size w) (.cells #[.int .i64 ep, .int .i64 lg, .slice A n c] 29)
  have KR := Lib.hid (right_any (w := w.alloc (.cells #[.int .i64 ep, .int .i64 lg, .slice A n c] 29)) ep lg A n c l (h.below O0) hn hnc false (by simp [hr]))
  have O0 := Lib.hid O0
  clear h hr
  unfold rootV at *
  go_enter Try.func6, Try.ntmps6
  go_wp2_with fail
  refine KR.out.mono ?_
  rintro e w1 ⟨rfl, hb1⟩
  have O1 := Lib.hid (bstep O0.out hb1)
  clear hb1
  go_wp2_with fail
  go_ret2
  exact ⟨rfl, O1.out⟩
def lenV : Value → Nat
  | .slice _ n _ => n
  | _ => 0
theorem idx5 (a0 a1 a2 a3 a4 : Int) (w : World) (k : Nat) (x : Value) (hx : #[Value.int .i64 a0, .int .i64 a1, .int .i64 a2, .int .i64 a3, .int .i64 a4][k]? = some x) :
    (Instr.index 46 (.agg #[.int .i64 a0, .int .i64 a1, .int .i64 a2, .int .i64 a3, .int .i64 a4]) (.int .i64 (k : Int))).run Try.prog w = .ok x w := by
  have hu : Try.prog.underlying 46 = some (.array 5 3) := by kernel_rfl
  have hm : (Try.prog.info? 3).map (·.size) = some 1 := by kernel_rfl
  have hp : Try.prog.plainKey 3 = true := by kernel_rfl
  have hk : k < 5 := by
    rcases Nat.lt_or_ge k 5 with h | h
    · exact h
    · rw [Array.getElem?_eq_none (by simpa using h)] at hx; cases hx
  cases hq : Try.prog.info? 3 with
  | none => simp [hq] at hm
  | some i =>
    simp only [hq, Option.map_some, Option.some.injEq] at hm
    have := run_part_plain (P := Try.prog) w hp hx
    simp [Instr.index, asIntOf, run_underlying hu, hk, sizeOf, typeInfo, hq, hm]
    exact this
def natI (l : List Nat) : List Int := l.map Int.ofNat
def ivs (l : List Nat) : List Value := l.map fun (x : Nat) => Value.int .i64 (x : Int)
theorem copy_parts {W : World} {g : Nat} {A : Option Addr} {n c : Nat} {l : List Nat} (B : Blk W g 46 #[.int .i64 0, .int .i64 0, .int .i64 0, .int .i64 0, .int .i64 0]) (H : IntsAt W A n (natI l)) (hl : l.length = n) (hn : n ≤ 5) :
    ∃ w', (Builtin.copy_ #[22, 22] 3 #[.slice (some ⟨g, 0, none⟩) 5 5, .slice A n c]).run Try.prog W = .ok (goInt n) w' ∧ Blk w' g 46 (ivs (l ++ List.replicate (5 - l.length) 0)).toArray ∧ Only [g] W w' := by
  cases A with
  | none =>
    have h0 : n = 0 := by
      by_cases h0 : n = 0
      · exact h0
      · obtain ⟨ad, x, h1, _⟩ := H.at 0 (by omega)
        cases h1
    subst h0
    have hl0 : l = [] := List.eq_nil_of_length_eq_zero hl
    subst hl0
    refine ⟨W, ?_, B, Only.refl _ _⟩
    simp [Builtin.copy_, run_underlying Try.underlying22, Builtin.lenOf, Builtin.firstCells, storeCells]
  | some ad =>
    have hlen : (ivs l).length = n := by simp [ivs, hl]
    obtain ⟨w', e, B', o⟩ := copy_cells (P := Try.prog) (cur := [.int .i64 0, .int .i64 0, .int .i64 0, .int .i64 0, .int .i64 0]) B 22 22 3 3 0 5 5 ad n c (ivs l) Try.underlying22 (by kernel_rfl) (by rw [hlen]; exact (Nat.min_eq_left hn).symm)
      (fun j v hv => by
        have hj : j < l.length := by have := (List.getElem?_eq_some_iff.1 hv).1; simpa [ivs] using this
        have hx : (natI l)[j]? = some (Int.ofNat l[j]) := by simp [natI, List.getElem?_eq_getElem hj]
        obtain ⟨ad', e1, h1⟩ := H.2 j _ hx
        injection e1 with e1
        subst e1
        simp only [ivs, List.getElem?_map, List.getElem?_eq_getElem hj, Option.map_some, Option.some.injEq] at hv
        subst hv
        exact h1) (by rw [hlen]; exact (by omega : 0 + n ≤ 5)) (by intro v hv; simp only [ivs, List.mem_map] at hv; obtain ⟨x, _, rfl⟩ := hv; rfl)
    rw [hlen] at e
    refine ⟨w', e, ?_, o⟩
    have : putAt [.int .i64 0, .int .i64 0, .int .i64 0, .int .i64 0, .int .i64 0] 0 (ivs l) = ivs (l ++ List.replicate (5 - l.length) 0) := by
      unfold putAt
      rw [List.take_zero, List.nil_append, Nat.zero_add, hlen, hl]
      have hz : ([.int .i64 0, .int .i64 0, .int .i64 0, .int .i64 0, .int .i64 0] : List Value).drop n = ivs (List.replicate (5 - n) 0) := by
        rcases (show n = 0 ∨ n = 1 ∨ n = 2 ∨ n = 3 ∨ n = 4 ∨ n = 5 by omega) with rfl | rfl | rfl | rfl | rfl | rfl <;> rfl
      rw [hz]
      simp [ivs]
    rw [← this]; exact B'
set_option maxRecDepth 100000 in
set_option maxHeartbeats 4000000 in
theorem rput_yes {w : World} (ep : Int) (lg : Nat) (A : Option Addr) (n c : Nat) (l : List Nat) (h : IntsAt w A n (natI l)) (hnc : n ≤ c) (hr : rightR ep lg (natI l)) :
    Calls Try.prog 6 #[rootV ep lg A n c] w fun e w' => e = .returned (.tuple #[.string ⟨(rootL ep lg l).toArray⟩, .int .i64 0]) ∧ Below w.heap.size w w' := by
  have hn5 := rightR_len hr
  have hll : l.length = n := by have := h.1; simpa [natI] using this
  have hn : n ≤ 5 := by rw [← hll]; simpa [natI] using hn5
  have hlg : lg ≤ 512 := by have := hr.2.2.2.1; omega
  have O0 := belowAlloc (Below.refl w.heap.size w) (.cells #[.int .i64 ep, .int .i64 (lg : Int), .slice A n c] 29)
  have B0 := Lib.hid (Blk.new w 29 #[.int .i64 ep, .int .i64 (lg : Int), .slice A n c])
  have H0 := Lib.hid (h.below O0)
  have KR := Lib.hid (right_any (w := w.alloc (.cells #[.int .i64 ep, .int .i64 (lg : Int), .slice A n c] 29)) ep lg A n c (natI l) H0.out (by omega) hnc true (by simp [hr]))
  have O0 := Lib.hid O0
  have HR := Lib.hid hr
  have HLL := Lib.hid hll
  clear h hr hn5
  unfold rootV at *
  go_enter Try.func6, Try.ntmps6
  go_wp2_with fail
  generalize hW : (w.alloc (.cells #[.int .i64 ep, .int .i64 (lg : Int), .slice A n c] 29)) = W at *
  clear hW
  refine KR.out.mono ?_
  rintro e w1 ⟨rfl, hb1⟩
  have O1 := Lib.hid (bstep O0.out hb1)
  have B1 := Lib.hid (B0.out.below hb1 B0.out.lt)
  have H1 := Lib.hid (H0.out.below hb1)
  clear hb1 KR
  go_wp2_with fail
  have HK := Lib.hid (show ∀ W', Below w1.heap.size w1 W' → (W'.cell? ⟨w.heap.size, 0, none⟩ = some (.int .i64 ep) ∧ W'.cell? ⟨w.heap.size, 1, none⟩ = some (.int .i64 (lg : Int)) ∧ W'.cell? ⟨w.heap.size, 2, none⟩ = some (.slice A n c)) from fun W' ho => ⟨(B1.out.below ho B1.out.lt).cell_some (i := 0) rfl, (B1.out.below ho B1.out.lt).cell_some (i := 1) rfl, (B1.out.below ho B1.out.lt).cell_some (i := 2) rfl⟩)
  have OD := Lib.hid ((Below.refl w1.heap.size w1).drew)
  refine wp_region_held_drew (S := fun W' => W'.cell? ⟨w.heap.size, 0, none⟩ = some (.int .i64 ep) ∧ W'.cell? ⟨w.heap.size, 1, none⟩ = some (.int .i64 (lg : Int)) ∧ W'.cell? ⟨w.heap.size, 2, none⟩ = some (.slice A n c)) (by kernel_rfl) (HK.out _ OD.out) (fun hHeld => ?_)
  refine wpAnyH_take (i := 0) (oi := ⟨some 12, _, _, _, _, _⟩) (v := ?_) rfl (by kernel_rfl) (by kernel_rfl) (by kernel_rfl) (fun _ _ _ h => h) (Or.inl ⟨by kernel_rfl, ?_⟩) (by assumption) ?_
  rotate_left
  · (intro w hSw; (try dsimp only at hSw); go_simp; (try (with_reducible rfl)))
  try simp only [Act.put, List.setIfInBounds_toArray, List.set_cons_zero, List.set_cons_succ]
  refine wpAnyH_take (i := 1) (oi := ⟨some 13, _, _, _, _, _⟩) (v := ?_) rfl (by kernel_rfl) (by kernel_rfl) (by kernel_rfl) (fun _ _ _ h => h) (Or.inl ⟨by kernel_rfl, ?_⟩) (by assumption) ?_
  rotate_left
  · (intro w hSw; (try dsimp only at hSw); go_simp; (try (with_reducible rfl)))
  try simp only [Act.put, List.setIfInBounds_toArray, List.set_cons_zero, List.set_cons_succ]
  refine wpAnyH_take (i := 3) (oi := ⟨some 15, _, _, _, _, _⟩) (v := ?_) rfl (by kernel_rfl) (by kernel_rfl) (by kernel_rfl) (fun _ _ _ h => h) (Or.inl ⟨by kernel_rfl, ?_⟩) (by assumption) ?_
  rotate_left
  · (intro w hSw; (try dsimp only at hSw); go_simp; (try (with_reducible rfl)))
  try simp only [Act.put, List.setIfInBounds_toArray, List.set_cons_zero, List.set_cons_succ]
  refine wpAnyH_take (i := 4) (oi := ⟨some 16, _, _, _, _, _⟩) (v := ?_) rfl (by kernel_rfl) (by kernel_rfl) (by kernel_rfl) (fun _ _ _ h => h) (Or.inl ⟨by kernel_rfl, ?_⟩) (by assumption) ?_
  rotate_left
  · (intro w hSw; (try dsimp only at hSw); go_simp; (try (with_reducible rfl)))
  try simp only [Act.put, List.setIfInBounds_toArray, List.set_cons_zero, List.set_cons_succ]
  refine wpAnyH_take (i := 5) (oi := ⟨some 17, _, _, _, _, _⟩) (v := ?_) rfl (by kernel_rfl) (by kernel_rfl) (by kernel_rfl) (fun _ _ _ h => h) (Or.inl ⟨by kernel_rfl, ?_⟩) (by assumption) ?_
  rotate_left
  · (intro w hSw; (try dsimp only at hSw); go_simp; (try (with_reducible rfl)))
  try simp only [Act.put, List.setIfInBounds_toArray, List.set_cons_zero, List.set_cons_succ]
  refine wpAnyH_ready (rs := [2]) (by kernel_rfl) (by simp) ?_
  refine AllReadyH.cons (o := ⟨some 14, _, _, _, _, _⟩) rfl (fun K hK => ?_) AllReadyH.nil
  go_simp
  go_at_call 16
  refine (two_any _ 0 [] (Slc.nil _ _ _) lg (by omega) (by omega)).mono ?_
  rintro r w2 ⟨⟨v2, rfl, S2, F2⟩, o2⟩
  have P2 := Lib.hid (OD.out.trans (o2.below_of OD.out.size (by simp [ownB])))
  have F2 := Lib.hid (show ∀ g ∈ ownB v2, w1.heap.size ≤ g from fun g hg => (F2 g hg).elim (fun h => by simp [ownB] at h) (fun h => Nat.le_trans OD.out.size h))
  go_simp
  refine hK.out _ _ (HK.out _ P2.out) (fun hHeld => ?_)
  try simp only [Act.put, List.setIfInBounds_toArray, List.set_cons_zero, List.set_cons_succ]
  refine wpAnyH_ready (rs := [6]) (by kernel_rfl) (by simp) ?_
  refine AllReadyH.cons (o := ⟨some 18, _, _, _, _, _⟩) rfl (fun K hK => ?_) AllReadyH.nil
  go_simp
  go_at_call 16
  refine (two_any _ 2 _ S2 n (by omega) (by omega)).mono ?_
  rintro r w3 ⟨⟨v3, rfl, S3, F3⟩, o3⟩
  have P3 := Lib.hid (P2.out.trans (o3.below_of P2.out.size F2.out))
  have F3 := Lib.hid (show ∀ g ∈ ownB v3, w1.heap.size ≤ g from fun g hg => (F3 g hg).elim (F2.out g) (fun h => Nat.le_trans P2.out.size h))
  go_simp
  refine hK.out _ _ (HK.out _ P3.out) (fun hHeld => ?_)
  try simp only [Act.put, List.setIfInBounds_toArray, List.set_cons_zero, List.set_cons_succ]
  refine wpAnyH_take (i := 7) (oi := ⟨some 4, _, _, _, _, _⟩) (v := ?_) rfl (by kernel_rfl) (by kernel_rfl) (by kernel_rfl) (fun _ _ _ h => h) (Or.inl ⟨by kernel_rfl, ?_⟩) (by assumption) ?_
  rotate_left
  · (intro w hSw; (try dsimp only at hSw); go_simp; (try (with_reducible rfl)))
  try simp only [Act.put, List.setIfInBounds_toArray, List.set_cons_zero, List.set_cons_succ]
  refine wpAnyH_done (by kernel_rfl) ?_ _
  have O3 := Lib.hid (bstep O1.out P3.out)
  have B3 := Lib.hid (B1.out.below P3.out B1.out.lt)
  have H3 := Lib.hid (H1.out.below P3.out)
  have S3 := Lib.hid S3
  obtain ⟨V3, c3, rfl⟩ := slc_val S3.out
  have F3 := Lib.hid (show ∀ g ∈ ownB (.slice V3 4 c3), w.heap.size + 1 ≤ g from fun g hg => Nat.le_trans (by have := B1.out.lt; omega) (F3.out g hg))
  clear hHeld o2 o3 S2 P2 P3 F2 OD HK
  -- the parts
  have BA := Lib.hid (Blk.new w3 46 #[.int .i64 0, .int .i64 0, .int .i64 0, .int .i64 0, .int .i64 0])
  have O4 := Lib.hid (belowAlloc O3.out (.cells #[.int .i64 0, .int .i64 0, .int .i64 0, .int .i64 0, .int .i64 0] 46))
  have B4 := Lib.hid (B3.out.alloc (.cells #[.int .i64 0, .int .i64 0, .int .i64 0, .int .i64 0, .int .i64 0] 46))
  have S4 := Lib.hid (S3.out.alloc (.cells #[.int .i64 0, .int .i64 0, .int .i64 0, .int .i64 0, .int .i64 0] 46))
  have H4 := Lib.hid (H3.out.below (belowAlloc (Below.refl _ _) (.cells #[.int .i64 0, .int .i64 0, .int .i64 0, .int .i64 0, .int .i64 0] 46)))
  go_wp2_with fail
  generalize hW : (w3.alloc _) = w4 at *
  have W3LT := B4.out.lt
  have HK := Lib.hid (show ∀ W', Only [w3.heap.size] w4 W' → (W'.cell? ⟨w.heap.size, 0, none⟩ = some (.int .i64 ep) ∧ W'.cell? ⟨w.heap.size, 1, none⟩ = some (.int .i64 (lg : Int)) ∧ W'.cell? ⟨w.heap.size, 2, none⟩ = some (.slice A n c)) from fun W' ho => by
    have hne : w.heap.size ∉ [w3.heap.size] := by have := B3.out.lt; simp; omega
    have B := B4.out.only ho hne
    exact ⟨B.cell_some (i := 0) rfl, B.cell_some (i := 1) rfl, B.cell_some (i := 2) rfl⟩)
  have OD := Lib.hid ((Only.refl [w3.heap.size] w4).drew)
  refine wp_region_held_drew (S := fun W' => W'.cell? ⟨w.heap.size, 0, none⟩ = some (.int .i64 ep) ∧ W'.cell? ⟨w.heap.size, 1, none⟩ = some (.int .i64 (lg : Int)) ∧ W'.cell? ⟨w.heap.size, 2, none⟩ = some (.slice A n c)) (by kernel_rfl) (HK.out _ OD.out) (fun hHeld => ?_)
  refine wpAnyH_take (i := 0) (oi := ⟨some 19, _, _, _, _, _⟩) (v := ?_) rfl (by kernel_rfl) (by kernel_rfl) (by kernel_rfl) (fun _ _ _ h => h) (Or.inl ⟨by kernel_rfl, ?_⟩) (by assumption) ?_
  rotate_left
  · (intro w hSw; (try dsimp only at hSw); go_simp; (try (with_reducible rfl)))
  try simp only [Act.put, List.setIfInBounds_toArray, List.set_cons_zero, List.set_cons_succ]
  refine wpAnyH_take (i := 1) (oi := ⟨some 20, _, _, _, _, _⟩) (v := ?_) rfl (by kernel_rfl) (by kernel_rfl) (by kernel_rfl) (fun _ _ _ h => h) (Or.inl ⟨by kernel_rfl, ?_⟩) (by assumption) ?_
  rotate_left
  · (intro w hSw; (try dsimp only at hSw); go_simp; (try (with_reducible rfl)))
  try simp only [Act.put, List.setIfInBounds_toArray, List.set_cons_zero, List.set_cons_succ]
  refine wpAnyH_take (i := 2) (oi := ⟨some 21, _, _, _, _, _⟩) (v := ?_) rfl (by kernel_rfl) (by kernel_rfl) (by kernel_rfl) (fun _ _ _ h => h) (Or.inl ⟨by kernel_rfl, ?_⟩) (by assumption) ?_
  rotate_left
  · (intro w hSw; (try dsimp only at hSw); go_simp; (try (with_reducible rfl)))
  try simp only [Act.put, List.setIfInBounds_toArray, List.set_cons_zero, List.set_cons_succ]
  refine wpAnyH_ready (rs := [3]) (by kernel_rfl) (by simp) ?_
  refine AllReadyH.cons (o := ⟨some 22, _, _, _, _, _⟩) rfl (fun K hK => ?_) AllReadyH.nil
  obtain ⟨w5, ec, BQ, oc⟩ := copy_parts (W := w4.drew) BA.out (show IntsAt w4.drew A n (natI l) from H4.out.below (Below.refl _ _).drew) HLL.out hn
  have EC := Lib.hid ec
  have OC := Lib.hid (OD.out.trans oc)
  have BQ := Lib.hid BQ
  clear ec oc
  go_simp
  rw [EC.out]
  go_simp
  refine hK.out _ _ (HK.out _ OC.out) (fun hHeld => ?_)
  try simp only [Act.put, List.setIfInBounds_toArray, List.set_cons_zero, List.set_cons_succ]
  refine wpAnyH_done (by kernel_rfl) ?_ _
  have hq5 : (l ++ List.replicate (5 - l.length) 0).length = 5 := by rw [List.length_append, List.length_replicate]; have := HLL.out; omega
  have hqs : ∀ x ∈ l ++ List.replicate (5 - l.length) 0, x ≤ 1023 := by
    intro x hx
    rcases List.mem_append.1 hx with hx | hx
    · obtain ⟨i, hi, rfl⟩ := List.getElem_of_mem hx
      have h1 := HR.out.2.2.2.2.2 i ((l[i] : Nat) : Int) (by simp [natI]; exact ⟨l[i], List.getElem?_eq_getElem hi, rfl⟩)
      omega
    · have := List.eq_of_mem_replicate hx; omega
  obtain ⟨q, hqq⟩ : ∃ q, l ++ List.replicate (5 - l.length) 0 = q := ⟨_, rfl⟩
  have HQQ := Lib.hid hqq
  rw [hqq] at BQ hq5 hqs
  clear hqq
  match q, hq5 with
  | [q0, q1, q2, q3, q4], _ =>
  have p0 : q0 ≤ 1023 := hqs _ (by simp)
  have p1 : q1 ≤ 1023 := hqs _ (by simp)
  have p2 : q2 ≤ 1023 := hqs _ (by simp)
  have p3 : q3 ≤ 1023 := hqs _ (by simp)
  have p4 : q4 ≤ 1023 := hqs _ (by simp)
  have a0 : w5.cell? ⟨w3.heap.size, 0, none⟩ = some (.int .i64 (q0 : Int)) := BQ.out.cell_some (i := 0) rfl
  have a1 : w5.cell? ⟨w3.heap.size, 1, none⟩ = some (.int .i64 (q1 : Int)) := BQ.out.cell_some (i := 1) rfl
  have a2 : w5.cell? ⟨w3.heap.size, 2, none⟩ = some (.int .i64 (q2 : Int)) := BQ.out.cell_some (i := 2) rfl
  have a3 : w5.cell? ⟨w3.heap.size, 3, none⟩ = some (.int .i64 (q3 : Int)) := BQ.out.cell_some (i := 3) rfl
  have a4 : w5.cell? ⟨w3.heap.size, 4, none⟩ = some (.int .i64 (q4 : Int)) := BQ.out.cell_some (i := 4) rfl
  have hw3 : w.heap.size < w3.heap.size := B3.out.lt
  have O5 := Lib.hid (O4.out.trans (OC.out.below_of O4.out.size (fun x hx => by simp at hx; omega)))
  have B5 := Lib.hid (B4.out.only OC.out (by simp; omega))
  have S5 := Lib.hid (S4.out.only OC.out (fun x hx => by have := S3.out.lt x hx; simp; omega))
  clear hHeld hqs OD HK
  go_wp2_with fail
  obtain ⟨HD, hHD⟩ : ∃ HD, [] ++ two8 lg ++ two8 n = HD := ⟨_, rfl⟩
  have HHD := Lib.hid hHD
  rw [hHD] at S5
  clear hHD a0 a1 a2 a3 a4 S4 S3
  go_loopw [4, 24] (fun sv iv wr => ∃ k : Nat, k ≤ 5 ∧ iv = .int .i64 (k : Int) ∧ Slc wr 5 1 sv (4 + 2 * k) (bvs (HD ++ ([q0, q1, q2, q3, q4].take k).flatMap two8)) ∧ Hid (Blk wr w.heap.size 29 #[.int .i64 ep, .int .i64 (lg : Int), .slice A n c]) ∧ Below w.heap.size w wr ∧ Hid (∀ x ∈ ownB sv, w.heap.size + 1 ≤ x)) (fun _ iv _ => 5 - (intOf iv).toNat)
  case atStart => exact ⟨0, by omega, rfl, by simpa using S5.out, B5, O5.out, F3⟩
  case round =>
    obtain ⟨k, hk, rfl, S, C, O, F⟩ := hrel
    obtain ⟨VA, vc, rfl⟩ := slc_val S
    rcases (show k = 0 ∨ k = 1 ∨ k = 2 ∨ k = 3 ∨ k = 4 ∨ k = 5 from by omega) with rfl | rfl | rfl | rfl | rfl | rfl
    · have K := Lib.hid (two_any _ 4 _ S q0 (by omega) (by omega))
      have OO := Lib.hid O
      have IX := Lib.hid (show (Instr.index 46 (.agg #[.int .i64 (q0 : Int), .int .i64 (q1 : Int), .int .i64 (q2 : Int), .int .i64 (q3 : Int), .int .i64 (q4 : Int)]) (.int .i64 0)).run Try.prog wr = .ok (.int .i64 (q0 : Int)) wr from idx5 q0 q1 q2 q3 q4 wr 0 _ rfl)
      clear S O
      go_wp2_with fail
      rw [IX.out]
      go_wp2_with fail
      refine K.out.mono ?_
      rintro r w7 ⟨⟨v7, rfl, S7, F7⟩, o7⟩
      have O7 := Lib.hid (OO.out.trans (o7.below_of OO.out.size (fun x hx => by have := F.out x hx; omega)))
      have C7 := Lib.hid (C.out.only o7 (fun hx => by have := F.out _ hx; omega))
      have F7 := Lib.hid (show ∀ x ∈ ownB v7, w.heap.size + 1 ≤ x from fun x hx => (F7 x hx).elim (F.out x) (fun h => by have := C.out.lt; omega))
      have S7 := Lib.hid (show Slc w7 5 1 v7 (4 + 2 * (0 + 1)) (bvs (HD ++ ([q0, q1, q2, q3, q4].take (0 + 1)).flatMap two8)) from by
        have hx : HD ++ ([q0, q1, q2, q3, q4].take (0 + 1)).flatMap two8 = (HD ++ ([q0, q1, q2, q3, q4].take 0).flatMap two8) ++ two8 q0 := by simp
        rw [hx]; exact S7)
      obtain ⟨V7, c7, rfl⟩ := slc_val S7.out
      clear o7
      go_wp2_with fail
      go_roundw
      case rel => exact ⟨0 + 1, by omega, by first | rfl | go_num, S7.out, C7, O7.out, F7⟩
      case measure => simp [intOf]
    · have K := Lib.hid (two_any _ 6 _ S q1 (by omega) (by omega))
      have OO := Lib.hid O
      have IX := Lib.hid (show (Instr.index 46 (.agg #[.int .i64 (q0 : Int), .int .i64 (q1 : Int), .int .i64 (q2 : Int), .int .i64 (q3 : Int), .int .i64 (q4 : Int)]) (.int .i64 1)).run Try.prog wr = .ok (.int .i64 (q1 : Int)) wr from idx5 q0 q1 q2 q3 q4 wr 1 _ rfl)
      clear S O
      go_wp2_with fail
      rw [IX.out]
      go_wp2_with fail
      refine K.out.mono ?_
      rintro r w7 ⟨⟨v7, rfl, S7, F7⟩, o7⟩
      have O7 := Lib.hid (OO.out.trans (o7.below_of OO.out.size (fun x hx => by have := F.out x hx; omega)))
      have C7 := Lib.hid (C.out.only o7 (fun hx => by have := F.out _ hx; omega))
      have F7 := Lib.hid (show ∀ x ∈ ownB v7, w.heap.size + 1 ≤ x from fun x hx => (F7 x hx).elim (F.out x) (fun h => by have := C.out.lt; omega))
      have S7 := Lib.hid (show Slc w7 5 1 v7 (4 + 2 * (1 + 1)) (bvs (HD ++ ([q0, q1, q2, q3, q4].take (1 + 1)).flatMap two8)) from by
        have hx : HD ++ ([q0, q1, q2, q3, q4].take (1 + 1)).flatMap two8 = (HD ++ ([q0, q1, q2, q3, q4].take 1).flatMap two8) ++ two8 q1 := by simp
        rw [hx]; exact S7)
      obtain ⟨V7, c7, rfl⟩ := slc_val S7.out
      clear o7
      go_wp2_with fail
      go_roundw
      case rel => exact ⟨1 + 1, by omega, by first | rfl | go_num, S7.out, C7, O7.out, F7⟩
      case measure => simp [intOf]
    · have K := Lib.hid (two_any _ 8 _ S q2 (by omega) (by omega))
      have OO := Lib.hid O
      have IX := Lib.hid (show (Instr.index 46 (.agg #[.int .i64 (q0 : Int), .int .i64 (q1 : Int), .int .i64 (q2 : Int), .int .i64 (q3 : Int), .int .i64 (q4 : Int)]) (.int .i64 2)).run Try.prog wr = .ok (.int .i64 (q2 : Int)) wr from idx5 q0 q1 q2 q3 q4 wr 2 _ rfl)
      clear S O
      go_wp2_with fail
      rw [IX.out]
      go_wp2_with fail
      refine K.out.mono ?_
      rintro r w7 ⟨⟨v7, rfl, S7, F7⟩, o7⟩
      have O7 := Lib.hid (OO.out.trans (o7.below_of OO.out.size (fun x hx => by have := F.out x hx; omega)))
      have C7 := Lib.hid (C.out.only o7 (fun hx => by have := F.out _ hx; omega))
      have F7 := Lib.hid (show ∀ x ∈ ownB v7, w.heap.size + 1 ≤ x from fun x hx => (F7 x hx).elim (F.out x) (fun h => by have := C.out.lt; omega))
      have S7 := Lib.hid (show Slc w7 5 1 v7 (4 + 2 * (2 + 1)) (bvs (HD ++ ([q0, q1, q2, q3, q4].take (2 + 1)).flatMap two8)) from by
        have hx : HD ++ ([q0, q1, q2, q3, q4].take (2 + 1)).flatMap two8 = (HD ++ ([q0, q1, q2, q3, q4].take 2).flatMap two8) ++ two8 q2 := by simp
        rw [hx]; exact S7)
      obtain ⟨V7, c7, rfl⟩ := slc_val S7.out
      clear o7
      go_wp2_with fail
      go_roundw
      case rel => exact ⟨2 + 1, by omega, by first | rfl | go_num, S7.out, C7, O7.out, F7⟩
      case measure => simp [intOf]
    · have K := Lib.hid (two_any _ 10 _ S q3 (by omega) (by omega))
      have OO := Lib.hid O
      have IX := Lib.hid (show (Instr.index 46 (.agg #[.int .i64 (q0 : Int), .int .i64 (q1 : Int), .int .i64 (q2 : Int), .int .i64 (q3 : Int), .int .i64 (q4 : Int)]) (.int .i64 3)).run Try.prog wr = .ok (.int .i64 (q3 : Int)) wr from idx5 q0 q1 q2 q3 q4 wr 3 _ rfl)
      clear S O
      go_wp2_with fail
      rw [IX.out]
      go_wp2_with fail
      refine K.out.mono ?_
      rintro r w7 ⟨⟨v7, rfl, S7, F7⟩, o7⟩
      have O7 := Lib.hid (OO.out.trans (o7.below_of OO.out.size (fun x hx => by have := F.out x hx; omega)))
      have C7 := Lib.hid (C.out.only o7 (fun hx => by have := F.out _ hx; omega))
      have F7 := Lib.hid (show ∀ x ∈ ownB v7, w.heap.size + 1 ≤ x from fun x hx => (F7 x hx).elim (F.out x) (fun h => by have := C.out.lt; omega))
      have S7 := Lib.hid (show Slc w7 5 1 v7 (4 + 2 * (3 + 1)) (bvs (HD ++ ([q0, q1, q2, q3, q4].take (3 + 1)).flatMap two8)) from by
        have hx : HD ++ ([q0, q1, q2, q3, q4].take (3 + 1)).flatMap two8 = (HD ++ ([q0, q1, q2, q3, q4].take 3).flatMap two8) ++ two8 q3 := by simp
        rw [hx]; exact S7)
      obtain ⟨V7, c7, rfl⟩ := slc_val S7.out
      clear o7
      go_wp2_with fail
      go_roundw
      case rel => exact ⟨3 + 1, by omega, by first | rfl | go_num, S7.out, C7, O7.out, F7⟩
      case measure => simp [intOf]
    · have K := Lib.hid (two_any _ 12 _ S q4 (by omega) (by omega))
      have OO := Lib.hid O
      have IX := Lib.hid (show (Instr.index 46 (.agg #[.int .i64 (q0 : Int), .int .i64 (q1 : Int), .int .i64 (q2 : Int), .int .i64 (q3 : Int), .int .i64 (q4 : Int)]) (.int .i64 4)).run Try.prog wr = .ok (.int .i64 (q4 : Int)) wr from idx5 q0 q1 q2 q3 q4 wr 4 _ rfl)
      clear S O
      go_wp2_with fail
      rw [IX.out]
      go_wp2_with fail
      refine K.out.mono ?_
      rintro r w7 ⟨⟨v7, rfl, S7, F7⟩, o7⟩
      have O7 := Lib.hid (OO.out.trans (o7.below_of OO.out.size (fun x hx => by have := F.out x hx; omega)))
      have C7 := Lib.hid (C.out.only o7 (fun hx => by have := F.out _ hx; omega))
      have F7 := Lib.hid (show ∀ x ∈ ownB v7, w.heap.size + 1 ≤ x from fun x hx => (F7 x hx).elim (F.out x) (fun h => by have := C.out.lt; omega))
      have S7 := Lib.hid (show Slc w7 5 1 v7 (4 + 2 * (4 + 1)) (bvs (HD ++ ([q0, q1, q2, q3, q4].take (4 + 1)).flatMap two8)) from by
        have hx : HD ++ ([q0, q1, q2, q3, q4].take (4 + 1)).flatMap two8 = (HD ++ ([q0, q1, q2, q3, q4].take 4).flatMap two8) ++ two8 q4 := by simp
        rw [hx]; exact S7)
      obtain ⟨V7, c7, rfl⟩ := slc_val S7.out
      clear o7
      go_wp2_with fail
      go_roundw
      case rel => exact ⟨4 + 1, by omega, by first | rfl | go_num, S7.out, C7, O7.out, F7⟩
      case measure => simp [intOf]
    · have OO := Lib.hid O
      have SS := Lib.hid (show Slc wr 5 1 (.slice VA 14 vc) 14 (bvs (HD ++ [q0, q1, q2, q3, q4].flatMap two8)) from S)
      clear S O
      go_wp2_with fail
      obtain ⟨M, hM⟩ : ∃ M, HD ++ [q0, q1, q2, q3, q4].flatMap two8 = M := ⟨_, rfl⟩
      have HM := Lib.hid (show M ++ List.replicate 30 0 = midL lg l from by
        unfold midL
        rw [← hM, ← HHD.out, HQQ.out, HLL.out, List.nil_append])
      rw [hM] at SS
      clear hM
      go_loopw [4] (fun sv wx => ∃ j : Nat, j ≤ 30 ∧ Slc wx 5 1 sv (14 + j) (bvs (M ++ List.replicate j 0)) ∧ Hid (Blk wx w.heap.size 29 #[.int .i64 ep, .int .i64 (lg : Int), .slice A n c]) ∧ Below w.heap.size w wx ∧ Hid (∀ x ∈ ownB sv, w.heap.size + 1 ≤ x)) (fun sv _ => 44 - lenV sv)
      case atStart => exact ⟨0, by omega, by simpa using SS.out, C, OO.out, F⟩
      case round =>
        obtain ⟨j, hj, S, C, O, F⟩ := hrel
        obtain ⟨VB, vb, rfl⟩ := slc_val S
        by_cases h : j < 30
        · have h1 : (14 : Int) + (j : Int) < 44 := by omega
          have h2 : 14 + j < 44 := by omega
          have h3 : ((14 + j : Nat) : Int) < 44 := by omega
          obtain ⟨v8, w8, ea, S8, o8, f8⟩ := append_one (P := Try.prog) S 44 44 (.int .u8 0) 1 Try.underlying44 Crc.info_u8 rfl (.int .u8 0) rfl (by unfold maxLen; omega) (by omega)
          obtain ⟨V8, c8, rfl⟩ := slc_val S8
          have EA := Lib.hid ea
          have S9 := Lib.hid (show Slc w8 5 1 (.slice V8 (14 + (j + 1)) c8) (14 + (j + 1)) (bvs (M ++ List.replicate (j + 1) 0)) from by
            rw [List.replicate_succ', ← List.append_assoc, bvs_append]
            exact S8)
          have O8 := Lib.hid (O.trans (o8.below_of O.size (fun x hx => by have := F.out x hx; omega)))
          have C8 := Lib.hid (C.out.only o8 (fun hx => by have := F.out _ hx; omega))
          have F8 := Lib.hid (show ∀ x ∈ ownB (.slice V8 (14 + (j + 1)) c8), w.heap.size + 1 ≤ x from fun x hx => (f8 x hx).elim (F.out x) (fun h => by have := C.out.lt; omega))
          clear ea S8 o8 f8 S O
          go_wp2_with fail
          rw [EA.out]
          go_wp2_with fail
          go_roundw
          case rel => exact ⟨_, _, _, _, _, _, _, ⟨j + 1, by omega, S9.out, C8, O8.out, F8⟩, rfl⟩
          case measure => simp [lenV]; omega
        · obtain rfl : j = 30 := by omega
          have h2 : ¬ ((14 + 30 : Nat) : Int) < 44 := by omega
          rw [HM.out] at S
          obtain ⟨gB, cap, rest, hv, BB, _, _⟩ := S.form (by omega) (by omega)
          simp only [Value.slice.injEq, true_and] at hv
          obtain ⟨rfl, rfl⟩ := hv
          have ST := Lib.hid (run_string_of (P := Try.prog) wr 44 9 5 Try.underlying44 Try.underlying5 Try.underlying9 ⟨gB, 0, none⟩ 44 vb (midL lg l) (by have := S.1; simpa using this) (cells_at BB 0 _ (by intro j u hu; rw [Nat.zero_add]; exact List.getElem?_append_left (List.getElem?_eq_some_iff.1 hu).1 ▸ hu)))
          have hml : (midL lg l).length = 44 := by have := S.1; simpa using this
          obtain ⟨T, hT⟩ : ∃ T : ByteArray, (⟨(midL lg l).toArray⟩ : ByteArray) = T := ⟨_, rfl⟩
          have hTz : T.size = 44 := by rw [← hT]; show (midL lg l).toArray.size = 44; simpa using hml
          have hTl : T.data.toList = midL lg l := by rw [← hT]
          rw [hT] at ST
          have KY := Lib.hid (Crc.lay_any T wr (by omega))
          rw [hTl] at KY
          have OO9 := Lib.hid O
          have hlen48 : (Crc.layF (midL lg l)).length = 48 := by unfold Crc.layF; simp [Crc.fourL, hml]
          have hpl : (packI ep).length = 8 := by unfold packI be8; rw [beK_length]
          obtain ⟨L, hL⟩ : ∃ L : ByteArray, (⟨(Crc.layF (midL lg l)).toArray⟩ : ByteArray) = L := ⟨_, rfl⟩
          obtain ⟨PI, hPI⟩ : ∃ L : ByteArray, (⟨(packI ep).toArray⟩ : ByteArray) = L := ⟨_, rfl⟩
          have hLz : L.size = 48 := by rw [← hL]; show (Crc.layF (midL lg l)).toArray.size = 48; simpa using hlen48
          have hPz : PI.size = 8 := by rw [← hPI]; show (packI ep).toArray.size = 8; simpa using hpl
          have HRES := Lib.hid (show PI ++ L ++ PI = (⟨(rootL ep lg l).toArray⟩ : ByteArray) from by
            rw [← hL, ← hPI]
            apply ByteArray.ext
            apply Array.toList_inj.1
            unfold rootL
            simp)
          rw [hL] at KY
          have KI := Lib.hid (fun w => I_any ep (by have := HR.out.1; omega) HR.out.2.1 w)
          rw [hPI] at KI
          clear S O BB hT hTl hL hPI hml hTz
          go_wp2_with fail
          rw [ST.out]
          go_wp2_with fail
          refine KY.out.mono ?_
          rintro e w9 ⟨rfl, hb9⟩
          have O9 := Lib.hid (bstep OO9.out hb9)
          have B9 := Lib.hid (C.out.below hb9 C.out.lt)
          clear hb9
          go_wp2_with fail
          have HK := Lib.hid (show ∀ W', Below w9.heap.size w9 W' → W'.cell? ⟨w.heap.size, 0, none⟩ = some (.int .i64 ep) from fun W' ho => (B9.out.below ho B9.out.lt).cell_some (i := 0) rfl)
          have OD := Lib.hid ((Below.refl w9.heap.size w9).drew)
          have z1 : ¬ 9223372036854775807 < PI.size + L.size := by omega
          have z2 : ¬ 9223372036854775807 < PI.size + L.size + PI.size := by omega
          clear hLz hPz
          refine wp_region_held_drew (S := fun W' => W'.cell? ⟨w.heap.size, 0, none⟩ = some (.int .i64 ep)) (by kernel_rfl) (HK.out _ OD.out) (fun hHeld => ?_)
          refine wpAnyH_take (i := 0) (oi := ⟨some 40, _, _, _, _, _⟩) (v := ?_) rfl (by kernel_rfl) (by kernel_rfl) (by kernel_rfl) (fun _ _ _ h => h) (Or.inl ⟨by kernel_rfl, ?_⟩) (by assumption) ?_
          rotate_left
          · (intro w hSw; (try dsimp only at hSw); go_simp; (try (with_reducible rfl)))
          try simp only [Act.put, List.setIfInBounds_toArray, List.set_cons_zero, List.set_cons_succ]
          refine wpAnyH_take (i := 1) (oi := ⟨some 41, _, _, _, _, _⟩) (v := ?_) rfl (by kernel_rfl) (by kernel_rfl) (by kernel_rfl) (fun _ _ _ h => h) (Or.inl ⟨by kernel_rfl, ?_⟩) (by assumption) ?_
          rotate_left
          · (intro w hSw; (try dsimp only at hSw); go_simp; (try (with_reducible rfl)))
          try simp only [Act.put, List.setIfInBounds_toArray, List.set_cons_zero, List.set_cons_succ]
          refine wpAnyH_take (i := 3) (oi := ⟨some 43, _, _, _, _, _⟩) (v := ?_) rfl (by kernel_rfl) (by kernel_rfl) (by kernel_rfl) (fun _ _ _ h => h) (Or.inl ⟨by kernel_rfl, ?_⟩) (by assumption) ?_
          rotate_left
          · (intro w hSw; (try dsimp only at hSw); go_simp; (try (with_reducible rfl)))
          try simp only [Act.put, List.setIfInBounds_toArray, List.set_cons_zero, List.set_cons_succ]
          refine wpAnyH_take (i := 5) (oi := ⟨some 45, _, _, _, _, _⟩) (v := ?_) rfl (by kernel_rfl) (by kernel_rfl) (by kernel_rfl) (fun _ _ _ h => h) (Or.inl ⟨by kernel_rfl, ?_⟩) (by assumption) ?_
          rotate_left
          · (intro w hSw; (try dsimp only at hSw); go_simp; (try (with_reducible rfl)))
          try simp only [Act.put, List.setIfInBounds_toArray, List.set_cons_zero, List.set_cons_succ]
          refine wpAnyH_take (i := 6) (oi := ⟨some 46, _, _, _, _, _⟩) (v := ?_) rfl (by kernel_rfl) (by kernel_rfl) (by kernel_rfl) (fun _ _ _ h => h) (Or.inl ⟨by kernel_rfl, ?_⟩) (by assumption) ?_
          rotate_left
          · (intro w hSw; (try dsimp only at hSw); go_simp; (try (with_reducible rfl)))
          try simp only [Act.put, List.setIfInBounds_toArray, List.set_cons_zero, List.set_cons_succ]
          refine wpAnyH_ready (rs := [2]) (by kernel_rfl) (by simp) ?_
          refine AllReadyH.cons (o := ⟨some 42, _, _, _, _, _⟩) rfl (fun K hK => ?_) AllReadyH.nil
          go_simp
          go_at_call 18
          refine (KI.out _).mono ?_
          rintro r wa ⟨rfl, hba⟩
          have Pa := Lib.hid (bstep OD.out hba)
          go_simp
          refine hK.out _ _ (HK.out _ Pa.out) (fun hHeld => ?_)
          try simp only [Act.put, List.setIfInBounds_toArray, List.set_cons_zero, List.set_cons_succ]
          refine wpAnyH_take (i := 4) (oi := ⟨some 44, _, _, _, _, _⟩) (v := ?_) rfl (by kernel_rfl) (by kernel_rfl) (by kernel_rfl) (fun _ _ _ h => h) (Or.inl ⟨by kernel_rfl, ?_⟩) (by assumption) ?_
          rotate_left
          · (intro w hSw; (try dsimp only at hSw); go_simp; (try (with_reducible rfl)))
          try simp only [Act.put, List.setIfInBounds_toArray, List.set_cons_zero, List.set_cons_succ]
          refine wpAnyH_ready (rs := [7]) (by kernel_rfl) (by simp) ?_
          refine AllReadyH.cons (o := ⟨some 47, _, _, _, _, _⟩) rfl (fun K hK => ?_) AllReadyH.nil
          go_simp
          go_at_call 18
          refine (KI.out _).mono ?_
          rintro r wb ⟨rfl, hbb⟩
          have Pb := Lib.hid (bstep Pa.out hbb)
          go_simp
          refine hK.out _ _ (HK.out _ Pb.out) (fun hHeld => ?_)
          try simp only [Act.put, List.setIfInBounds_toArray, List.set_cons_zero, List.set_cons_succ]
          refine wpAnyH_take (i := 8) (oi := ⟨some 48, _, _, _, _, _⟩) (v := ?_) rfl (by kernel_rfl) (by kernel_rfl) (by kernel_rfl) (fun _ _ _ h => h) (Or.inl ⟨by kernel_rfl, ?_⟩) (by assumption) ?_
          rotate_left
          · (intro w hSw; (try dsimp only at hSw); go_simp; (try (with_reducible rfl)))
          try simp only [Act.put, List.setIfInBounds_toArray, List.set_cons_zero, List.set_cons_succ]
          refine wpAnyH_take (i := 9) (oi := ⟨some 2, _, _, _, _, _⟩) (v := ?_) rfl (by kernel_rfl) (by kernel_rfl) (by kernel_rfl) (fun _ _ _ h => h) (Or.inl ⟨by kernel_rfl, ?_⟩) (by assumption) ?_
          rotate_left
          · (intro w hSw; (try dsimp only at hSw); go_simp; (try (with_reducible rfl)))
          try simp only [Act.put, List.setIfInBounds_toArray, List.set_cons_zero, List.set_cons_succ]
          refine wpAnyH_take (i := 10) (oi := ⟨some 3, _, _, _, _, _⟩) (v := ?_) rfl (by kernel_rfl) (by kernel_rfl) (by kernel_rfl) (fun _ _ _ h => h) (Or.inl ⟨by kernel_rfl, ?_⟩) (by assumption) ?_
          rotate_left
          · (intro w hSw; (try dsimp only at hSw); go_simp; (try (with_reducible rfl)))
          try simp only [Act.put, List.setIfInBounds_toArray, List.set_cons_zero, List.set_cons_succ]
          refine wpAnyH_done (by kernel_rfl) ?_ _
          have OF := Lib.hid (bstep O9.out Pb.out)
          go_wp2_with fail
          go_ret2
          exact ⟨by rw [← HRES.out]; rfl, OF.out⟩
end Go.Proofs.Ytemcamhkacaoiaa.Rt
