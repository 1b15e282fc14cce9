/- nodes: NodeFits where the first put has room (case 4 of four). -/
import Derived.Test.YticehnnbjbliaabNd32
namespace Go.Proofs.Yticehnnbjbliaab.Nd
open Go.RowKit Sl
attribute [local go_sem ↓] Go.wp_at_zero Go.wp_at_succ exec_app
set_option maxRecDepth 100000 in
set_option maxHeartbeats 8000000 in
theorem fits_good4 {w : World} (leaf : Bool) (A : Option Addr) (n c : Nat) (l : List E) (xk xv : ByteArray) (xf : Int) (h : Ents w A n l) (hn : n ≤ 9223372036854775807) (hn60 : n ≤ 60) (hnc : n ≤ c) (hcm : c ≤ maxLen) (hl : lightP l) (hk : xk.size ≤ 200) (hv : xv.size ≤ 200) (hm : mayP l leaf) (hroom : 0 ≤ roomR (recsN leaf l)) (ad : Addr) (hA : A = some ad) (hc : ∀ k, PlaceAt l xk k → k = n) (hcc : n = c) :
    Calls Try.prog 7 #[nodeV leaf A n c, .agg #[.string xk, .string xv, .int .i64 xf]] w fun e w' => e = .returned (.bool true) ∧ Below w.heap.size w w' := by
  replace hA := Lib.hid hA
  replace hc := Lib.hid hc
  replace hcc := Lib.hid hcc
  have O0 := belowAlloc (belowAlloc (Below.refl w.heap.size w) (.cells #[.bool leaf, .slice A n c] 24)) (.cells #[.string xk, .string xv, .int .i64 xf] 50)
  have B0 := Lib.hid ((Blk.new w 24 #[.bool leaf, .slice A n c]).alloc (.cells #[.string xk, .string xv, .int .i64 xf] 50))
  have X0 := Blk.new (w.alloc (.cells #[.bool leaf, .slice A n c] 24)) 50 #[.string xk, .string xv, .int .i64 xf]
  rw [asz] at X0
  have X0 := Lib.hid X0
  have H0 := Lib.hid (h.below O0)
  have HLEN := Lib.hid h.1
  have O0 := Lib.hid O0
  have KL := Lib.hid (light_any (w := (w.alloc (.cells #[.bool leaf, .slice A n c] 24)).alloc (.cells #[.string xk, .string xv, .int .i64 xf] 50)) leaf A n c l H0.out (by omega))
  clear h
  have x0 : ((w.alloc (.cells #[.bool leaf, .slice A n c] 24)).alloc (.cells #[.string xk, .string xv, .int .i64 xf] 50)).cell? ⟨w.heap.size + 1, 0, none⟩ = some (.string xk) := X0.out.cell_some (i := 0) rfl
  have x1 : ((w.alloc (.cells #[.bool leaf, .slice A n c] 24)).alloc (.cells #[.string xk, .string xv, .int .i64 xf] 50)).cell? ⟨w.heap.size + 1, 1, none⟩ = some (.string xv) := X0.out.cell_some (i := 1) rfl
  unfold nodeV at *
  go_enter Try.func7, Try.ntmps7
  go_wp2_with fail
  generalize hW : ((w.alloc (.cells #[.bool leaf, .slice A n c] 24)).alloc (.cells #[.string xk, .string xv, .int .i64 xf] 50)) = W0 at *
  clear hW x0 x1
  refine KL.out.mono ?_
  rintro e w1 ⟨⟨b, rfl, hb⟩, hb1⟩
  have O1 := Lib.hid (bstep O0.out hb1)
  have B1 := Lib.hid (B0.out.below hb1 B0.out.lt)
  have X1 := Lib.hid (X0.out.below hb1 X0.out.lt)
  have H1 := Lib.hid (H0.out.below hb1)
  have c0 : w1.cell? ⟨w.heap.size, 0, none⟩ = some (.bool leaf) := B1.out.cell_some (i := 0) rfl
  have c1 : w1.cell? ⟨w.heap.size, 1, none⟩ = some (.slice A n c) := B1.out.cell_some (i := 1) rfl
  have x0 : w1.cell? ⟨w.heap.size + 1, 0, none⟩ = some (.string xk) := X1.out.cell_some (i := 0) rfl
  have x1 : w1.cell? ⟨w.heap.size + 1, 1, none⟩ = some (.string xv) := X1.out.cell_some (i := 1) rfl
  have x2 : w1.cell? ⟨w.heap.size + 1, 2, none⟩ = some (.int .i64 xf) := X1.out.cell_some (i := 2) rfl
  clear hb1 KL
  obtain rfl := hb.2 hl
  clear hb hl
  have k1I : ¬ (200 : Int) < (xk.size : Int) := by omega
  have k2I : ¬ (200 : Int) < (xv.size : Int) := by omega
  have KT := Lib.hid (to_any (w := w1) leaf A n c l H1.out (by omega))
  unfold nodeV at KT
  go_wp2_with fail
  refine KT.out.mono ?_
  rintro e w2 ⟨⟨TA, tc, rfl, TS, -⟩, hb2⟩
  have O2 := Lib.hid (bstep O1.out hb2)
  have B2 := Lib.hid (B1.out.below hb2 B1.out.lt)
  have X2 := Lib.hid (X1.out.below hb2 X1.out.lt)
  have H2 := Lib.hid (H1.out.below hb2)
  have ET := Lib.hid (Slc.ents TS).2
  clear hb2 TS KT c0 c1 x0 x1 x2
  have KP := Lib.hid (put_yes (w := w2) leaf TA n tc l ET.out (by omega) hm)
  unfold nodeV at KP
  have HMM := Lib.hid hm
  have HR := Lib.hid hroom
  clear hm hroom
  go_wp2_with fail
  refine KP.out.mono ?_
  rintro e w3 ⟨hx, hb3⟩
  obtain ⟨T, rfl⟩ : ∃ T : ByteArray, e = .returned (.tuple #[.string T, .int .i64 0]) := by
    rcases hx with ⟨_, b, rfl, _, _⟩ | ⟨h0, _⟩
    · exact ⟨b, rfl⟩
    · exact absurd HR.out (by omega)
  clear hx
  have O3 := Lib.hid (bstep O2.out hb3)
  have B3 := Lib.hid (B2.out.below hb3 B2.out.lt)
  have X3 := Lib.hid (X2.out.below hb3 X2.out.lt)
  have H3 := Lib.hid (H2.out.below hb3)
  clear hb3
  go_wp2_with fail
  have HK := Lib.hid (show ∀ W', Below w3.heap.size w3 W' → (W'.cell? ⟨w.heap.size, 0, none⟩ = some (.bool leaf) ∧ W'.cell? ⟨w.heap.size, 1, none⟩ = some (.slice A n c) ∧ W'.cell? ⟨w.heap.size + 1, 0, none⟩ = some (.string xk)) from fun W' ho => ⟨(B3.out.below ho B3.out.lt).cell_some (i := 0) rfl, (B3.out.below ho B3.out.lt).cell_some (i := 1) rfl, (X3.out.below ho X3.out.lt).cell_some (i := 0) rfl⟩)
  have OD := Lib.hid ((Below.refl w3.heap.size w3).drew)
  refine wp_region_held_drew (S := fun W' => W'.cell? ⟨w.heap.size, 0, none⟩ = some (.bool leaf) ∧ W'.cell? ⟨w.heap.size, 1, none⟩ = some (.slice A n c) ∧ W'.cell? ⟨w.heap.size + 1, 0, none⟩ = some (.string xk)) (by kernel_rfl) (HK.out _ OD.out) (fun hHeld => ?_)
  refine wpAnyH_take (i := 0) (oi := ⟨some 39, _, _, _, _, _⟩) (v := ?_) rfl (by kernel_rfl) (by kernel_rfl) (by kernel_rfl) (fun _ _ _ h => h) (Or.inl ⟨by kernel_rfl, ?_⟩) (by assumption) ?_
  rotate_left
  · (intro w hSw; (try dsimp only at hSw); go_simp; (try (with_reducible rfl)))
  try simp only [Act.put, List.setIfInBounds_toArray, List.set_cons_zero, List.set_cons_succ]
  refine wpAnyH_take (i := 2) (oi := ⟨some 41, _, _, _, _, _⟩) (v := ?_) rfl (by kernel_rfl) (by kernel_rfl) (by kernel_rfl) (fun _ _ _ h => h) (Or.inl ⟨by kernel_rfl, ?_⟩) (by assumption) ?_
  rotate_left
  · (intro w hSw; (try dsimp only at hSw); go_simp; (try (with_reducible rfl)))
  try simp only [Act.put, List.setIfInBounds_toArray, List.set_cons_zero, List.set_cons_succ]
  refine wpAnyH_take (i := 3) (oi := ⟨some 42, _, _, _, _, _⟩) (v := ?_) rfl (by kernel_rfl) (by kernel_rfl) (by kernel_rfl) (fun _ _ _ h => h) (Or.inl ⟨by kernel_rfl, ?_⟩) (by assumption) ?_
  rotate_left
  · (intro w hSw; (try dsimp only at hSw); go_simp; (try (with_reducible rfl)))
  try simp only [Act.put, List.setIfInBounds_toArray, List.set_cons_zero, List.set_cons_succ]
  refine wpAnyH_ready (rs := [1]) (by kernel_rfl) (by simp) ?_
  refine AllReadyH.cons (o := ⟨some 40, _, _, _, _, _⟩) rfl (fun K hK => ?_) AllReadyH.nil
  go_simp
  go_at_call 11
  have KT2 := to_any (w := w3.drew) leaf A n c l (H3.out.below OD.out) (by omega)
  unfold nodeV at KT2
  refine KT2.mono ?_
  rintro e w4 ⟨⟨UA, uc, rfl, US, -⟩, hb4⟩
  have P4 := Lib.hid (bstep OD.out hb4)
  have EU := Lib.hid (Slc.ents US).2
  clear US
  go_simp
  refine hK.out _ _ (HK.out _ P4.out) (fun hHeld => ?_)
  try simp only [Act.put, List.setIfInBounds_toArray, List.set_cons_zero, List.set_cons_succ]
  refine wpAnyH_ready (rs := [4]) (by kernel_rfl) (by simp) ?_
  refine AllReadyH.cons (o := ⟨some 43, _, _, _, _, _⟩) rfl (fun K hK => ?_) AllReadyH.nil
  go_simp
  go_at_call 22
  have KF := find_any (w := w4) leaf UA n uc l xk EU.out (by omega)
  unfold nodeV at KF
  refine KF.mono ?_
  rintro e w5 ⟨⟨k, q, rfl, hp, hh⟩, hb5⟩
  have P5 := Lib.hid (bstep P4.out hb5)
  have HP := Lib.hid hp
  have HH := Lib.hid hh
  clear hp hh
  go_simp
  refine hK.out _ _ (HK.out _ P5.out) (fun hHeld => ?_)
  try simp only [Act.put, List.setIfInBounds_toArray, List.set_cons_zero, List.set_cons_succ]
  refine wpAnyH_take (i := 5) (oi := ⟨some 38, _, _, _, _, _⟩) (v := ?_) rfl (by kernel_rfl) (by kernel_rfl) (by kernel_rfl) (fun _ _ _ h => h) (Or.inl ⟨by kernel_rfl, ?_⟩) (by assumption) ?_
  rotate_left
  · (intro w hSw; (try dsimp only at hSw); go_simp; (try (with_reducible rfl)))
  try simp only [Act.put, List.setIfInBounds_toArray, List.set_cons_zero, List.set_cons_succ]
  refine wpAnyH_take (i := 6) (oi := ⟨some 44, _, _, _, _, _⟩) (v := ?_) rfl (by kernel_rfl) (by kernel_rfl) (by kernel_rfl) (fun _ _ _ h => h) (Or.inl ⟨by kernel_rfl, ?_⟩) (by assumption) ?_
  rotate_left
  · (intro w hSw; (try dsimp only at hSw); go_simp; (try (with_reducible rfl)))
  try simp only [Act.put, List.setIfInBounds_toArray, List.set_cons_zero, List.set_cons_succ]
  refine wpAnyH_take (i := 7) (oi := ⟨some 45, _, _, _, _, _⟩) (v := ?_) rfl (by kernel_rfl) (by kernel_rfl) (by kernel_rfl) (fun _ _ _ h => h) (Or.inl ⟨by kernel_rfl, ?_⟩) (by assumption) ?_
  rotate_left
  · (intro w hSw; (try dsimp only at hSw); go_simp; (try (with_reducible rfl)))
  try simp only [Act.put, List.setIfInBounds_toArray, List.set_cons_zero, List.set_cons_succ]
  refine wpAnyH_take (i := 8) (oi := ⟨some 7, _, _, _, _, _⟩) (v := ?_) rfl (by kernel_rfl) (by kernel_rfl) (by kernel_rfl) (fun _ _ _ h => h) (Or.inl ⟨by kernel_rfl, ?_⟩) (by assumption) ?_
  rotate_left
  · (intro w hSw; (try dsimp only at hSw); go_simp; (try (with_reducible rfl)))
  try simp only [Act.put, List.setIfInBounds_toArray, List.set_cons_zero, List.set_cons_succ]
  refine wpAnyH_take (i := 9) (oi := ⟨some 8, _, _, _, _, _⟩) (v := ?_) rfl (by kernel_rfl) (by kernel_rfl) (by kernel_rfl) (fun _ _ _ h => h) (Or.inl ⟨by kernel_rfl, ?_⟩) (by assumption) ?_
  rotate_left
  · (intro w hSw; (try dsimp only at hSw); go_simp; (try (with_reducible rfl)))
  try simp only [Act.put, List.setIfInBounds_toArray, List.set_cons_zero, List.set_cons_succ]
  refine wpAnyH_done (by kernel_rfl) ?_ _
  have O5 := Lib.hid (bstep O3.out P5.out)
  have B5 := Lib.hid (B3.out.below P5.out B3.out.lt)
  have X5 := Lib.hid (X3.out.below P5.out X3.out.lt)
  have H5 := Lib.hid (H3.out.below P5.out)
  have hkn : k ≤ n := by have := HP.out.1; rw [HLEN.out] at this; exact this
  clear hHeld hb4 hb5 P4 P5 HK
  cases q
  · have hk0 : ¬ (k : Int) < 0 := by omega
    have hk1 : ¬ (n : Int) < (k : Int) := by omega
    have y0 : w5.cell? ⟨w.heap.size, 0, none⟩ = some (.bool leaf) := B5.out.cell_some (i := 0) rfl
    have y1 : w5.cell? ⟨w.heap.size, 1, none⟩ = some (.slice A n c) := B5.out.cell_some (i := 1) rfl
    go_wp2_with fail
    generalize w5 = wr at *
    have HNOT := Lib.hid (show ¬ HasAt l xk k from fun hx => by have := HH.out.2 hx; cases this)
    have OPR := Lib.hid O5.out
    clear ET EU HH y0 y1 OD H3 X3 B3 O3 H2 X2 B2 O2 H1 X1 B1 O1 H0 X0 B0 O0 hk0 hk1 KP hk hv
    go_cut [9] from 63 to 79 (fun v9 wx => ∃ g9 V vc, v9 = .pointer (some ⟨g9, 0, none⟩) ∧ Blk wx g9 24 #[.bool leaf, .slice V (n + 1) vc] ∧ Slc wx 50 3 (.slice V (n + 1) vc) (n + 1) (ents (l.take k ++ [⟨xk, xv, xf⟩] ++ l.drop k)) ∧ Below w.heap.size w wx)
    case first =>
      have hA2 := hA.out
      subst hA2
      obtain rfl := hc.out k HP.out
      obtain rfl := hcc.out
      have HK := Lib.hid (show ∀ W', Below wr.heap.size wr W' → (W'.cell? ⟨w.heap.size, 0, none⟩ = some (.bool leaf) ∧ W'.cell? ⟨w.heap.size, 1, none⟩ = some (.slice (some ad) k k) ∧ W'.cell? ⟨w.heap.size + 1, 0, none⟩ = some (.string xk) ∧ W'.cell? ⟨w.heap.size + 1, 1, none⟩ = some (.string xv) ∧ W'.cell? ⟨w.heap.size + 1, 2, none⟩ = some (.int .i64 xf)) from fun W' ho => ⟨(B5.out.below ho B5.out.lt).cell_some (i := 0) rfl, (B5.out.below ho B5.out.lt).cell_some (i := 1) rfl, (X5.out.below ho X5.out.lt).cell_some (i := 0) rfl, (X5.out.below ho X5.out.lt).cell_some (i := 1) rfl, (X5.out.below ho X5.out.lt).cell_some (i := 2) rfl⟩)
      have hll := HLEN.out
      have AP7 := Lib.hid (show ∀ (W : World) (v0 : Value) (gx g9 : Option Nat) (_ : True), Fit ⟨xk, xv, xf⟩ wr W (some (v0, 0, [])) gx g9 → ∃ V1 k1 w2, appRun Try.prog RL RL W v0 (.slice (some ad) k k) = .ok (.slice V1 k k1) w2 ∧ Fit ⟨xk, xv, xf⟩ wr w2 (some (.slice V1 k k1, k, (l.take k))) gx g9 from fun W v0 gx g9 _ h => fit_part H5.out 0 k k k (l.take k) (by omega) (by omega) (by rw [List.nil_append, List.drop_zero]) (by omega) ad (by rw [Nat.zero_mul, add_zero']) h)
      have AP10 := Lib.hid (show ∀ (W : World) (v0 : Value) (g : Nat) (g9 : Option Nat) (_ : True), Fit ⟨xk, xv, xf⟩ wr W (some (v0, k, (l.take k))) (some g) g9 → ∃ V1 k1 w2, appRun Try.prog RL RL W v0 (.slice (some ⟨g, 0, none⟩) 1 1) = .ok (.slice V1 (k + 1) k1) w2 ∧ Fit ⟨xk, xv, xf⟩ wr w2 (some (.slice V1 (k + 1) k1, (k + 1), ((l.take k) ++ [⟨xk, xv, xf⟩]))) (some g) g9 from fun W v0 g g9 _ h => fit_one (by omega) h)
      have AP15 := Lib.hid (show ∀ (W : World) (v0 : Value) (gx g9 : Option Nat) (_ : True), Fit ⟨xk, xv, xf⟩ wr W (some (v0, (k + 1), ((l.take k) ++ [⟨xk, xv, xf⟩]))) gx g9 → ∃ V1 k1 w2, appRun Try.prog RL RL W v0 (.slice (some ad) 0 0) = .ok (.slice V1 (k + 1) k1) w2 ∧ Fit ⟨xk, xv, xf⟩ wr w2 (some (.slice V1 (k + 1) k1, (k + 1), (((l.take k) ++ [⟨xk, xv, xf⟩]) ++ l.drop k))) gx g9 from fun W v0 gx g9 _ h => fit_none (some ad) 0 (k + 1) (((l.take k) ++ [⟨xk, xv, xf⟩]) ++ l.drop k) rfl (by rw [List.drop_eq_nil_of_le (by omega), List.append_nil]) (by omega) h)
      have FT := Lib.hid (Fit.start ⟨xk, xv, xf⟩ wr)
      refine wp_region_held_drew (S := fun W' => W'.cell? ⟨w.heap.size, 0, none⟩ = some (.bool leaf) ∧ W'.cell? ⟨w.heap.size, 1, none⟩ = some (.slice (some ad) k k) ∧ W'.cell? ⟨w.heap.size + 1, 0, none⟩ = some (.string xk) ∧ W'.cell? ⟨w.heap.size + 1, 1, none⟩ = some (.string xv) ∧ W'.cell? ⟨w.heap.size + 1, 2, none⟩ = some (.int .i64 xf)) (by kernel_rfl) (HK.out _ FT.out.bw) (fun hHeld => ?_)
      refine wpAnyH_take (i := 0) (oi := ⟨some 63, _, _, _, _, _⟩) (v := ?_) rfl (by kernel_rfl) (by kernel_rfl) (by kernel_rfl) (fun _ _ _ h => h) (Or.inl ⟨by kernel_rfl, ?_⟩) (by assumption) ?_
      rotate_left
      · (intro w hSw; (try dsimp only at hSw); go_simp; (try (with_reducible rfl)))
      try simp only [Act.put, List.setIfInBounds_toArray, List.set_cons_zero, List.set_cons_succ]
      refine wpAnyH_take (i := 1) (oi := ⟨some 64, _, _, _, _, _⟩) (v := ?_) rfl (by kernel_rfl) (by kernel_rfl) (by kernel_rfl) (fun _ _ _ h => h) (Or.inl ⟨by kernel_rfl, ?_⟩) (by assumption) ?_
      rotate_left
      · (intro w hSw; (try dsimp only at hSw); go_simp; (try (with_reducible rfl)))
      try simp only [Act.put, List.setIfInBounds_toArray, List.set_cons_zero, List.set_cons_succ]
      refine wpAnyH_take (i := 3) (oi := ⟨some 66, _, _, _, _, _⟩) (v := ?_) rfl (by kernel_rfl) (by kernel_rfl) (by kernel_rfl) (fun _ _ _ h => h) (Or.inl ⟨by kernel_rfl, ?_⟩) (by assumption) ?_
      rotate_left
      · (intro w hSw; (try dsimp only at hSw); go_simp; (try (with_reducible rfl)))
      try simp only [Act.put, List.setIfInBounds_toArray, List.set_cons_zero, List.set_cons_succ]
      refine wpAnyH_take (i := 4) (oi := ⟨some 67, _, _, _, _, _⟩) (v := ?_) rfl (by kernel_rfl) (by kernel_rfl) (by kernel_rfl) (fun _ _ _ h => h) (Or.inl ⟨by kernel_rfl, ?_⟩) (by assumption) ?_
      rotate_left
      · (intro w hSw; (try dsimp only at hSw); go_simp; (try (with_reducible rfl)))
      try simp only [Act.put, List.setIfInBounds_toArray, List.set_cons_zero, List.set_cons_succ]
      refine wpAnyH_take (i := 5) (oi := ⟨some 68, _, _, _, _, _⟩) (v := ?_) rfl (by kernel_rfl) (by kernel_rfl) (by kernel_rfl) (fun _ _ _ h => h) (Or.inl ⟨by kernel_rfl, ?_⟩) (by assumption) ?_
      rotate_left
      · (intro w hSw; (try dsimp only at hSw); go_simp; (try (with_reducible rfl)))
      try simp only [Act.put, List.setIfInBounds_toArray, List.set_cons_zero, List.set_cons_succ]
      refine wpAnyH_take (i := 6) (oi := ⟨some 69, _, _, _, _, _⟩) (v := ?_) rfl (by kernel_rfl) (by kernel_rfl) (by kernel_rfl) (fun _ _ _ h => h) (Or.inl ⟨by kernel_rfl, ?_⟩) (by assumption) ?_
      rotate_left
      · (intro w hSw; (try dsimp only at hSw); go_simp; (try (with_reducible rfl)))
      try simp only [Act.put, List.setIfInBounds_toArray, List.set_cons_zero, List.set_cons_succ]
      refine wpAnyH_take (i := 8) (oi := ⟨some 71, _, _, _, _, _⟩) (v := ?_) rfl (by kernel_rfl) (by kernel_rfl) (by kernel_rfl) (fun _ _ _ h => h) (Or.inl ⟨by kernel_rfl, ?_⟩) (by assumption) ?_
      rotate_left
      · (intro w hSw; (try dsimp only at hSw); go_simp; (try (with_reducible rfl)))
      try simp only [Act.put, List.setIfInBounds_toArray, List.set_cons_zero, List.set_cons_succ]
      refine wpAnyH_take (i := 11) (oi := ⟨some 74, _, _, _, _, _⟩) (v := ?_) rfl (by kernel_rfl) (by kernel_rfl) (by kernel_rfl) (fun _ _ _ h => h) (Or.inl ⟨by kernel_rfl, ?_⟩) (by assumption) ?_
      rotate_left
      · (intro w hSw; (try dsimp only at hSw); go_simp; (try (with_reducible rfl)))
      try simp only [Act.put, List.setIfInBounds_toArray, List.set_cons_zero, List.set_cons_succ]
      refine wpAnyH_take (i := 12) (oi := ⟨some 75, _, _, _, _, _⟩) (v := ?_) rfl (by kernel_rfl) (by kernel_rfl) (by kernel_rfl) (fun _ _ _ h => h) (Or.inl ⟨by kernel_rfl, ?_⟩) (by assumption) ?_
      rotate_left
      · (intro w hSw; (try dsimp only at hSw); go_simp; (try (with_reducible rfl)))
      try simp only [Act.put, List.setIfInBounds_toArray, List.set_cons_zero, List.set_cons_succ]
      refine wpAnyH_take (i := 13) (oi := ⟨some 76, _, _, _, _, _⟩) (v := ?_) rfl (by kernel_rfl) (by kernel_rfl) (by kernel_rfl) (fun _ _ _ h => h) (Or.inl ⟨by kernel_rfl, ?_⟩) (by assumption) ?_
      rotate_left
      · (intro w hSw; (try dsimp only at hSw); go_simp; (try (with_reducible rfl)))
      try simp only [Act.put, List.setIfInBounds_toArray, List.set_cons_zero, List.set_cons_succ]
      refine wpAnyH_take (i := 14) (oi := ⟨some 77, _, _, _, _, _⟩) (v := ?_) rfl (by kernel_rfl) (by kernel_rfl) (by kernel_rfl) (fun _ _ _ h => h) (Or.inl ⟨by kernel_rfl, ?_⟩) (by assumption) ?_
      rotate_left
      · (intro w hSw; (try dsimp only at hSw); go_simp; (try (with_reducible rfl)))
      try simp only [Act.put, List.setIfInBounds_toArray, List.set_cons_zero, List.set_cons_succ]
      generalize wr.drew = wd at *
      refine wpAnyH_ready (rs := [2, 9, 17]) (by kernel_rfl) (by simp) ?_
      refine AllReadyH.cons (o := ⟨some 65, _, _, _, _, _⟩) rfl (fun K hK => ?_) (AllReadyH.cons (o := ⟨some 72, _, _, _, _, _⟩) rfl (fun K hK => ?_) (AllReadyH.cons (o := ⟨some 9, _, _, _, _, _⟩) rfl (fun K hK => ?_) AllReadyH.nil))
      ·go_simp
       have FT := Lib.hid FT.out.two
       generalize (wd.alloc (.cells #[] 50)) = y1 at *
       refine hK.out _ _ (HK.out _ FT.out.bw) (fun hHeld => ?_)
       try simp only [Act.put, List.setIfInBounds_toArray, List.set_cons_zero, List.set_cons_succ]
       refine wpAnyH_ready (rs := [7, 9, 17]) (by kernel_rfl) (by simp) ?_
       refine AllReadyH.cons (o := ⟨some 70, _, _, _, _, _⟩) rfl (fun K hK => ?_) (AllReadyH.cons (o := ⟨some 72, _, _, _, _, _⟩) rfl (fun K hK => ?_) (AllReadyH.cons (o := ⟨some 9, _, _, _, _, _⟩) rfl (fun K hK => ?_) AllReadyH.nil))
       ·obtain ⟨V2, vc2, y2, ea, ft⟩ := AP7.out _ _ _ _ trivial FT.out
        have EA := Lib.hid ea
        have FT := Lib.hid ft
        clear ea ft
        go_simp
        rw [EA.out]
        go_simp
        refine hK.out _ _ (HK.out _ FT.out.bw) (fun hHeld => ?_)
        try simp only [Act.put, List.setIfInBounds_toArray, List.set_cons_zero, List.set_cons_succ]
        refine wpAnyH_ready (rs := [9, 17]) (by kernel_rfl) (by simp) ?_
        refine AllReadyH.cons (o := ⟨some 72, _, _, _, _, _⟩) rfl (fun K hK => ?_) (AllReadyH.cons (o := ⟨some 9, _, _, _, _, _⟩) rfl (fun K hK => ?_) AllReadyH.nil)
        ·go_simp
         have FT := Lib.hid FT.out.nine
         generalize (y2.alloc (.cells #[.string xk, .string xv, .int .i64 xf] 50)) = y3 at *
         refine hK.out _ _ (HK.out _ FT.out.bw) (fun hHeld => ?_)
         try simp only [Act.put, List.setIfInBounds_toArray, List.set_cons_zero, List.set_cons_succ]
         refine wpAnyH_ready (rs := [10, 17]) (by kernel_rfl) (by simp) ?_
         refine AllReadyH.cons (o := ⟨some 73, _, _, _, _, _⟩) rfl (fun K hK => ?_) (AllReadyH.cons (o := ⟨some 9, _, _, _, _, _⟩) rfl (fun K hK => ?_) AllReadyH.nil)
         ·obtain ⟨V2, vc2, y4, ea, ft⟩ := AP10.out _ _ _ _ trivial FT.out
          have EA := Lib.hid ea
          have FT := Lib.hid ft
          clear ea ft
          go_simp
          rw [EA.out]
          go_simp
          refine hK.out _ _ (HK.out _ FT.out.bw) (fun hHeld => ?_)
          try simp only [Act.put, List.setIfInBounds_toArray, List.set_cons_zero, List.set_cons_succ]
          refine wpAnyH_ready (rs := [15, 17]) (by kernel_rfl) (by simp) ?_
          refine AllReadyH.cons (o := ⟨some 78, _, _, _, _, _⟩) rfl (fun K hK => ?_) (AllReadyH.cons (o := ⟨some 9, _, _, _, _, _⟩) rfl (fun K hK => ?_) AllReadyH.nil)
          ·obtain ⟨V2, vc2, y5, ea, ft⟩ := AP15.out _ _ _ _ trivial FT.out
           have EA := Lib.hid ea
           have FT := Lib.hid ft
           clear ea ft
           go_simp
           rw [EA.out]
           go_simp
           refine hK.out _ _ (HK.out _ FT.out.bw) (fun hHeld => ?_)
           try simp only [Act.put, List.setIfInBounds_toArray, List.set_cons_zero, List.set_cons_succ]
           refine wpAnyH_take (i := 16) (oi := ⟨some 79, _, _, _, _, _⟩) (v := ?_) rfl (by kernel_rfl) (by kernel_rfl) (by kernel_rfl) (fun _ _ _ h => h) (Or.inl ⟨by kernel_rfl, ?_⟩) (by assumption) ?_
           rotate_left
           · (intro w hSw; (try dsimp only at hSw); go_simp; (try (with_reducible rfl)))
           try simp only [Act.put, List.setIfInBounds_toArray, List.set_cons_zero, List.set_cons_succ]
           refine wpAnyH_ready (rs := [17]) (by kernel_rfl) (by simp) ?_
           refine AllReadyH.cons (o := ⟨some 9, _, _, _, _, _⟩) rfl (fun K hK => ?_) AllReadyH.nil
           ·go_simp
            have FT := Lib.hid FT.out.node
            generalize (y5.alloc (.cells #[.bool false, .slice none 0 0] 24)) = y6 at *
            refine hK.out _ _ (HK.out _ FT.out.bw) (fun hHeld => ?_)
            try simp only [Act.put, List.setIfInBounds_toArray, List.set_cons_zero, List.set_cons_succ]
            obtain ⟨⟨n1, n2, n3, n4⟩, _, rfl, BX, SX, BW9⟩ := FT.out.done leaf
            have BX := Lib.hid BX
            have SX := Lib.hid SX
            have BW9 := Lib.hid BW9
            refine wpAnyH_ready (rs := [18]) (by kernel_rfl) (by simp) ?_
            refine AllReadyH.cons (o := ⟨none, _, _, _, _, _⟩) rfl (fun K hK => ?_) AllReadyH.nil
            go_simp
            refine hK.out _ _ (HK.out _ BW9.out) (fun hHeld => ?_)
            try simp only [Act.put, List.setIfInBounds_toArray, List.set_cons_zero, List.set_cons_succ]
            refine wpAnyH_done (by kernel_rfl) ?_ _
            go_wp2_with fail
            go_meet
            exact ⟨_, _, _, rfl, BX.out, SX.out, bstep OPR.out BW9.out⟩
          ·go_simp
           have FT := Lib.hid FT.out.node
           generalize (y4.alloc (.cells #[.bool false, .slice none 0 0] 24)) = y5 at *
           refine hK.out _ _ (HK.out _ FT.out.bw) (fun hHeld => ?_)
           try simp only [Act.put, List.setIfInBounds_toArray, List.set_cons_zero, List.set_cons_succ]
           refine wpAnyH_ready (rs := [15]) (by kernel_rfl) (by simp) ?_
           refine AllReadyH.cons (o := ⟨some 78, _, _, _, _, _⟩) rfl (fun K hK => ?_) AllReadyH.nil
           ·obtain ⟨V2, vc2, y6, ea, ft⟩ := AP15.out _ _ _ _ trivial FT.out
            have EA := Lib.hid ea
            have FT := Lib.hid ft
            clear ea ft
            go_simp
            rw [EA.out]
            go_simp
            refine hK.out _ _ (HK.out _ FT.out.bw) (fun hHeld => ?_)
            try simp only [Act.put, List.setIfInBounds_toArray, List.set_cons_zero, List.set_cons_succ]
            refine wpAnyH_take (i := 16) (oi := ⟨some 79, _, _, _, _, _⟩) (v := ?_) rfl (by kernel_rfl) (by kernel_rfl) (by kernel_rfl) (fun _ _ _ h => h) (Or.inl ⟨by kernel_rfl, ?_⟩) (by assumption) ?_
            rotate_left
            · (intro w hSw; (try dsimp only at hSw); go_simp; (try (with_reducible rfl)))
            try simp only [Act.put, List.setIfInBounds_toArray, List.set_cons_zero, List.set_cons_succ]
            obtain ⟨⟨n1, n2, n3, n4⟩, _, rfl, BX, SX, BW9⟩ := FT.out.done leaf
            have BX := Lib.hid BX
            have SX := Lib.hid SX
            have BW9 := Lib.hid BW9
            refine wpAnyH_ready (rs := [18]) (by kernel_rfl) (by simp) ?_
            refine AllReadyH.cons (o := ⟨none, _, _, _, _, _⟩) rfl (fun K hK => ?_) AllReadyH.nil
            go_simp
            refine hK.out _ _ (HK.out _ BW9.out) (fun hHeld => ?_)
            try simp only [Act.put, List.setIfInBounds_toArray, List.set_cons_zero, List.set_cons_succ]
            refine wpAnyH_done (by kernel_rfl) ?_ _
            go_wp2_with fail
            go_meet
            exact ⟨_, _, _, rfl, BX.out, SX.out, bstep OPR.out BW9.out⟩
         ·go_simp
          have FT := Lib.hid FT.out.node
          generalize (y3.alloc (.cells #[.bool false, .slice none 0 0] 24)) = y4 at *
          refine hK.out _ _ (HK.out _ FT.out.bw) (fun hHeld => ?_)
          try simp only [Act.put, List.setIfInBounds_toArray, List.set_cons_zero, List.set_cons_succ]
          refine wpAnyH_ready (rs := [10]) (by kernel_rfl) (by simp) ?_
          refine AllReadyH.cons (o := ⟨some 73, _, _, _, _, _⟩) rfl (fun K hK => ?_) AllReadyH.nil
          ·obtain ⟨V2, vc2, y5, ea, ft⟩ := AP10.out _ _ _ _ trivial FT.out
           have EA := Lib.hid ea
           have FT := Lib.hid ft
           clear ea ft
           go_simp
           rw [EA.out]
           go_simp
           refine hK.out _ _ (HK.out _ FT.out.bw) (fun hHeld => ?_)
           try simp only [Act.put, List.setIfInBounds_toArray, List.set_cons_zero, List.set_cons_succ]
           refine wpAnyH_ready (rs := [15]) (by kernel_rfl) (by simp) ?_
           refine AllReadyH.cons (o := ⟨some 78, _, _, _, _, _⟩) rfl (fun K hK => ?_) AllReadyH.nil
           ·obtain ⟨V2, vc2, y6, ea, ft⟩ := AP15.out _ _ _ _ trivial FT.out
            have EA := Lib.hid ea
            have FT := Lib.hid ft
            clear ea ft
            go_simp
            rw [EA.out]
            go_simp
            refine hK.out _ _ (HK.out _ FT.out.bw) (fun hHeld => ?_)
            try simp only [Act.put, List.setIfInBounds_toArray, List.set_cons_zero, List.set_cons_succ]
            refine wpAnyH_take (i := 16) (oi := ⟨some 79, _, _, _, _, _⟩) (v := ?_) rfl (by kernel_rfl) (by kernel_rfl) (by kernel_rfl) (fun _ _ _ h => h) (Or.inl ⟨by kernel_rfl, ?_⟩) (by assumption) ?_
            rotate_left
            · (intro w hSw; (try dsimp only at hSw); go_simp; (try (with_reducible rfl)))
            try simp only [Act.put, List.setIfInBounds_toArray, List.set_cons_zero, List.set_cons_succ]
            obtain ⟨⟨n1, n2, n3, n4⟩, _, rfl, BX, SX, BW9⟩ := FT.out.done leaf
            have BX := Lib.hid BX
            have SX := Lib.hid SX
            have BW9 := Lib.hid BW9
            refine wpAnyH_ready (rs := [18]) (by kernel_rfl) (by simp) ?_
            refine AllReadyH.cons (o := ⟨none, _, _, _, _, _⟩) rfl (fun K hK => ?_) AllReadyH.nil
            go_simp
            refine hK.out _ _ (HK.out _ BW9.out) (fun hHeld => ?_)
            try simp only [Act.put, List.setIfInBounds_toArray, List.set_cons_zero, List.set_cons_succ]
            refine wpAnyH_done (by kernel_rfl) ?_ _
            go_wp2_with fail
            go_meet
            exact ⟨_, _, _, rfl, BX.out, SX.out, bstep OPR.out BW9.out⟩
        ·go_simp
         have FT := Lib.hid FT.out.node
         generalize (y2.alloc (.cells #[.bool false, .slice none 0 0] 24)) = y3 at *
         refine hK.out _ _ (HK.out _ FT.out.bw) (fun hHeld => ?_)
         try simp only [Act.put, List.setIfInBounds_toArray, List.set_cons_zero, List.set_cons_succ]
         refine wpAnyH_ready (rs := [9]) (by kernel_rfl) (by simp) ?_
         refine AllReadyH.cons (o := ⟨some 72, _, _, _, _, _⟩) rfl (fun K hK => ?_) AllReadyH.nil
         ·go_simp
          have FT := Lib.hid FT.out.nine
          generalize (y3.alloc (.cells #[.string xk, .string xv, .int .i64 xf] 50)) = y4 at *
          refine hK.out _ _ (HK.out _ FT.out.bw) (fun hHeld => ?_)
          try simp only [Act.put, List.setIfInBounds_toArray, List.set_cons_zero, List.set_cons_succ]
          refine wpAnyH_ready (rs := [10]) (by kernel_rfl) (by simp) ?_
          refine AllReadyH.cons (o := ⟨some 73, _, _, _, _, _⟩) rfl (fun K hK => ?_) AllReadyH.nil
          ·obtain ⟨V2, vc2, y5, ea, ft⟩ := AP10.out _ _ _ _ trivial FT.out
           have EA := Lib.hid ea
           have FT := Lib.hid ft
           clear ea ft
           go_simp
           rw [EA.out]
           go_simp
           refine hK.out _ _ (HK.out _ FT.out.bw) (fun hHeld => ?_)
           try simp only [Act.put, List.setIfInBounds_toArray, List.set_cons_zero, List.set_cons_succ]
           refine wpAnyH_ready (rs := [15]) (by kernel_rfl) (by simp) ?_
           refine AllReadyH.cons (o := ⟨some 78, _, _, _, _, _⟩) rfl (fun K hK => ?_) AllReadyH.nil
           ·obtain ⟨V2, vc2, y6, ea, ft⟩ := AP15.out _ _ _ _ trivial FT.out
            have EA := Lib.hid ea
            have FT := Lib.hid ft
            clear ea ft
            go_simp
            rw [EA.out]
            go_simp
            refine hK.out _ _ (HK.out _ FT.out.bw) (fun hHeld => ?_)
            try simp only [Act.put, List.setIfInBounds_toArray, List.set_cons_zero, List.set_cons_succ]
            refine wpAnyH_take (i := 16) (oi := ⟨some 79, _, _, _, _, _⟩) (v := ?_) rfl (by kernel_rfl) (by kernel_rfl) (by kernel_rfl) (fun _ _ _ h => h) (Or.inl ⟨by kernel_rfl, ?_⟩) (by assumption) ?_
            rotate_left
            · (intro w hSw; (try dsimp only at hSw); go_simp; (try (with_reducible rfl)))
            try simp only [Act.put, List.setIfInBounds_toArray, List.set_cons_zero, List.set_cons_succ]
            obtain ⟨⟨n1, n2, n3, n4⟩, _, rfl, BX, SX, BW9⟩ := FT.out.done leaf
            have BX := Lib.hid BX
            have SX := Lib.hid SX
            have BW9 := Lib.hid BW9
            refine wpAnyH_ready (rs := [18]) (by kernel_rfl) (by simp) ?_
            refine AllReadyH.cons (o := ⟨none, _, _, _, _, _⟩) rfl (fun K hK => ?_) AllReadyH.nil
            go_simp
            refine hK.out _ _ (HK.out _ BW9.out) (fun hHeld => ?_)
            try simp only [Act.put, List.setIfInBounds_toArray, List.set_cons_zero, List.set_cons_succ]
            refine wpAnyH_done (by kernel_rfl) ?_ _
            go_wp2_with fail
            go_meet
            exact ⟨_, _, _, rfl, BX.out, SX.out, bstep OPR.out BW9.out⟩
       ·go_simp
        have FT := Lib.hid FT.out.nine
        generalize (y1.alloc (.cells #[.string xk, .string xv, .int .i64 xf] 50)) = y2 at *
        refine hK.out _ _ (HK.out _ FT.out.bw) (fun hHeld => ?_)
        try simp only [Act.put, List.setIfInBounds_toArray, List.set_cons_zero, List.set_cons_succ]
        refine wpAnyH_ready (rs := [7, 17]) (by kernel_rfl) (by simp) ?_
        refine AllReadyH.cons (o := ⟨some 70, _, _, _, _, _⟩) rfl (fun K hK => ?_) (AllReadyH.cons (o := ⟨some 9, _, _, _, _, _⟩) rfl (fun K hK => ?_) AllReadyH.nil)
        ·obtain ⟨V2, vc2, y3, ea, ft⟩ := AP7.out _ _ _ _ trivial FT.out
         have EA := Lib.hid ea
         have FT := Lib.hid ft
         clear ea ft
         go_simp
         rw [EA.out]
         go_simp
         refine hK.out _ _ (HK.out _ FT.out.bw) (fun hHeld => ?_)
         try simp only [Act.put, List.setIfInBounds_toArray, List.set_cons_zero, List.set_cons_succ]
         refine wpAnyH_ready (rs := [10, 17]) (by kernel_rfl) (by simp) ?_
         refine AllReadyH.cons (o := ⟨some 73, _, _, _, _, _⟩) rfl (fun K hK => ?_) (AllReadyH.cons (o := ⟨some 9, _, _, _, _, _⟩) rfl (fun K hK => ?_) AllReadyH.nil)
         ·obtain ⟨V2, vc2, y4, ea, ft⟩ := AP10.out _ _ _ _ trivial FT.out
          have EA := Lib.hid ea
          have FT := Lib.hid ft
          clear ea ft
          go_simp
          rw [EA.out]
          go_simp
          refine hK.out _ _ (HK.out _ FT.out.bw) (fun hHeld => ?_)
          try simp only [Act.put, List.setIfInBounds_toArray, List.set_cons_zero, List.set_cons_succ]
          refine wpAnyH_ready (rs := [15, 17]) (by kernel_rfl) (by simp) ?_
          refine AllReadyH.cons (o := ⟨some 78, _, _, _, _, _⟩) rfl (fun K hK => ?_) (AllReadyH.cons (o := ⟨some 9, _, _, _, _, _⟩) rfl (fun K hK => ?_) AllReadyH.nil)
          ·obtain ⟨V2, vc2, y5, ea, ft⟩ := AP15.out _ _ _ _ trivial FT.out
           have EA := Lib.hid ea
           have FT := Lib.hid ft
           clear ea ft
           go_simp
           rw [EA.out]
           go_simp
           refine hK.out _ _ (HK.out _ FT.out.bw) (fun hHeld => ?_)
           try simp only [Act.put, List.setIfInBounds_toArray, List.set_cons_zero, List.set_cons_succ]
           refine wpAnyH_take (i := 16) (oi := ⟨some 79, _, _, _, _, _⟩) (v := ?_) rfl (by kernel_rfl) (by kernel_rfl) (by kernel_rfl) (fun _ _ _ h => h) (Or.inl ⟨by kernel_rfl, ?_⟩) (by assumption) ?_
           rotate_left
           · (intro w hSw; (try dsimp only at hSw); go_simp; (try (with_reducible rfl)))
           try simp only [Act.put, List.setIfInBounds_toArray, List.set_cons_zero, List.set_cons_succ]
           refine wpAnyH_ready (rs := [17]) (by kernel_rfl) (by simp) ?_
           refine AllReadyH.cons (o := ⟨some 9, _, _, _, _, _⟩) rfl (fun K hK => ?_) AllReadyH.nil
           ·go_simp
            have FT := Lib.hid FT.out.node
            generalize (y5.alloc (.cells #[.bool false, .slice none 0 0] 24)) = y6 at *
            refine hK.out _ _ (HK.out _ FT.out.bw) (fun hHeld => ?_)
            try simp only [Act.put, List.setIfInBounds_toArray, List.set_cons_zero, List.set_cons_succ]
            obtain ⟨⟨n1, n2, n3, n4⟩, _, rfl, BX, SX, BW9⟩ := FT.out.done leaf
            have BX := Lib.hid BX
            have SX := Lib.hid SX
            have BW9 := Lib.hid BW9
            refine wpAnyH_ready (rs := [18]) (by kernel_rfl) (by simp) ?_
            refine AllReadyH.cons (o := ⟨none, _, _, _, _, _⟩) rfl (fun K hK => ?_) AllReadyH.nil
            go_simp
            refine hK.out _ _ (HK.out _ BW9.out) (fun hHeld => ?_)
            try simp only [Act.put, List.setIfInBounds_toArray, List.set_cons_zero, List.set_cons_succ]
            refine wpAnyH_done (by kernel_rfl) ?_ _
            go_wp2_with fail
            go_meet
            exact ⟨_, _, _, rfl, BX.out, SX.out, bstep OPR.out BW9.out⟩
          ·go_simp
           have FT := Lib.hid FT.out.node
           generalize (y4.alloc (.cells #[.bool false, .slice none 0 0] 24)) = y5 at *
           refine hK.out _ _ (HK.out _ FT.out.bw) (fun hHeld => ?_)
           try simp only [Act.put, List.setIfInBounds_toArray, List.set_cons_zero, List.set_cons_succ]
           refine wpAnyH_ready (rs := [15]) (by kernel_rfl) (by simp) ?_
           refine AllReadyH.cons (o := ⟨some 78, _, _, _, _, _⟩) rfl (fun K hK => ?_) AllReadyH.nil
           ·obtain ⟨V2, vc2, y6, ea, ft⟩ := AP15.out _ _ _ _ trivial FT.out
            have EA := Lib.hid ea
            have FT := Lib.hid ft
            clear ea ft
            go_simp
            rw [EA.out]
            go_simp
            refine hK.out _ _ (HK.out _ FT.out.bw) (fun hHeld => ?_)
            try simp only [Act.put, List.setIfInBounds_toArray, List.set_cons_zero, List.set_cons_succ]
            refine wpAnyH_take (i := 16) (oi := ⟨some 79, _, _, _, _, _⟩) (v := ?_) rfl (by kernel_rfl) (by kernel_rfl) (by kernel_rfl) (fun _ _ _ h => h) (Or.inl ⟨by kernel_rfl, ?_⟩) (by assumption) ?_
            rotate_left
            · (intro w hSw; (try dsimp only at hSw); go_simp; (try (with_reducible rfl)))
            try simp only [Act.put, List.setIfInBounds_toArray, List.set_cons_zero, List.set_cons_succ]
            obtain ⟨⟨n1, n2, n3, n4⟩, _, rfl, BX, SX, BW9⟩ := FT.out.done leaf
            have BX := Lib.hid BX
            have SX := Lib.hid SX
            have BW9 := Lib.hid BW9
            refine wpAnyH_ready (rs := [18]) (by kernel_rfl) (by simp) ?_
            refine AllReadyH.cons (o := ⟨none, _, _, _, _, _⟩) rfl (fun K hK => ?_) AllReadyH.nil
            go_simp
            refine hK.out _ _ (HK.out _ BW9.out) (fun hHeld => ?_)
            try simp only [Act.put, List.setIfInBounds_toArray, List.set_cons_zero, List.set_cons_succ]
            refine wpAnyH_done (by kernel_rfl) ?_ _
            go_wp2_with fail
            go_meet
            exact ⟨_, _, _, rfl, BX.out, SX.out, bstep OPR.out BW9.out⟩
         ·go_simp
          have FT := Lib.hid FT.out.node
          generalize (y3.alloc (.cells #[.bool false, .slice none 0 0] 24)) = y4 at *
          refine hK.out _ _ (HK.out _ FT.out.bw) (fun hHeld => ?_)
          try simp only [Act.put, List.setIfInBounds_toArray, List.set_cons_zero, List.set_cons_succ]
          refine wpAnyH_ready (rs := [10]) (by kernel_rfl) (by simp) ?_
          refine AllReadyH.cons (o := ⟨some 73, _, _, _, _, _⟩) rfl (fun K hK => ?_) AllReadyH.nil
          ·obtain ⟨V2, vc2, y5, ea, ft⟩ := AP10.out _ _ _ _ trivial FT.out
           have EA := Lib.hid ea
           have FT := Lib.hid ft
           clear ea ft
           go_simp
           rw [EA.out]
           go_simp
           refine hK.out _ _ (HK.out _ FT.out.bw) (fun hHeld => ?_)
           try simp only [Act.put, List.setIfInBounds_toArray, List.set_cons_zero, List.set_cons_succ]
           refine wpAnyH_ready (rs := [15]) (by kernel_rfl) (by simp) ?_
           refine AllReadyH.cons (o := ⟨some 78, _, _, _, _, _⟩) rfl (fun K hK => ?_) AllReadyH.nil
           ·obtain ⟨V2, vc2, y6, ea, ft⟩ := AP15.out _ _ _ _ trivial FT.out
            have EA := Lib.hid ea
            have FT := Lib.hid ft
            clear ea ft
            go_simp
            rw [EA.out]
            go_simp
            refine hK.out _ _ (HK.out _ FT.out.bw) (fun hHeld => ?_)
            try simp only [Act.put, List.setIfInBounds_toArray, List.set_cons_zero, List.set_cons_succ]
            refine wpAnyH_take (i := 16) (oi := ⟨some 79, _, _, _, _, _⟩) (v := ?_) rfl (by kernel_rfl) (by kernel_rfl) (by kernel_rfl) (fun _ _ _ h => h) (Or.inl ⟨by kernel_rfl, ?_⟩) (by assumption) ?_
            rotate_left
            · (intro w hSw; (try dsimp only at hSw); go_simp; (try (with_reducible rfl)))
            try simp only [Act.put, List.setIfInBounds_toArray, List.set_cons_zero, List.set_cons_succ]
            obtain ⟨⟨n1, n2, n3, n4⟩, _, rfl, BX, SX, BW9⟩ := FT.out.done leaf
            have BX := Lib.hid BX
            have SX := Lib.hid SX
            have BW9 := Lib.hid BW9
            refine wpAnyH_ready (rs := [18]) (by kernel_rfl) (by simp) ?_
            refine AllReadyH.cons (o := ⟨none, _, _, _, _, _⟩) rfl (fun K hK => ?_) AllReadyH.nil
            go_simp
            refine hK.out _ _ (HK.out _ BW9.out) (fun hHeld => ?_)
            try simp only [Act.put, List.setIfInBounds_toArray, List.set_cons_zero, List.set_cons_succ]
            refine wpAnyH_done (by kernel_rfl) ?_ _
            go_wp2_with fail
            go_meet
            exact ⟨_, _, _, rfl, BX.out, SX.out, bstep OPR.out BW9.out⟩
        ·go_simp
         have FT := Lib.hid FT.out.node
         generalize (y2.alloc (.cells #[.bool false, .slice none 0 0] 24)) = y3 at *
         refine hK.out _ _ (HK.out _ FT.out.bw) (fun hHeld => ?_)
         try simp only [Act.put, List.setIfInBounds_toArray, List.set_cons_zero, List.set_cons_succ]
         refine wpAnyH_ready (rs := [7]) (by kernel_rfl) (by simp) ?_
         refine AllReadyH.cons (o := ⟨some 70, _, _, _, _, _⟩) rfl (fun K hK => ?_) AllReadyH.nil
         ·obtain ⟨V2, vc2, y4, ea, ft⟩ := AP7.out _ _ _ _ trivial FT.out
          have EA := Lib.hid ea
          have FT := Lib.hid ft
          clear ea ft
          go_simp
          rw [EA.out]
          go_simp
          refine hK.out _ _ (HK.out _ FT.out.bw) (fun hHeld => ?_)
          try simp only [Act.put, List.setIfInBounds_toArray, List.set_cons_zero, List.set_cons_succ]
          refine wpAnyH_ready (rs := [10]) (by kernel_rfl) (by simp) ?_
          refine AllReadyH.cons (o := ⟨some 73, _, _, _, _, _⟩) rfl (fun K hK => ?_) AllReadyH.nil
          ·obtain ⟨V2, vc2, y5, ea, ft⟩ := AP10.out _ _ _ _ trivial FT.out
           have EA := Lib.hid ea
           have FT := Lib.hid ft
           clear ea ft
           go_simp
           rw [EA.out]
           go_simp
           refine hK.out _ _ (HK.out _ FT.out.bw) (fun hHeld => ?_)
           try simp only [Act.put, List.setIfInBounds_toArray, List.set_cons_zero, List.set_cons_succ]
           refine wpAnyH_ready (rs := [15]) (by kernel_rfl) (by simp) ?_
           refine AllReadyH.cons (o := ⟨some 78, _, _, _, _, _⟩) rfl (fun K hK => ?_) AllReadyH.nil
           ·obtain ⟨V2, vc2, y6, ea, ft⟩ := AP15.out _ _ _ _ trivial FT.out
            have EA := Lib.hid ea
            have FT := Lib.hid ft
            clear ea ft
            go_simp
            rw [EA.out]
            go_simp
            refine hK.out _ _ (HK.out _ FT.out.bw) (fun hHeld => ?_)
            try simp only [Act.put, List.setIfInBounds_toArray, List.set_cons_zero, List.set_cons_succ]
            refine wpAnyH_take (i := 16) (oi := ⟨some 79, _, _, _, _, _⟩) (v := ?_) rfl (by kernel_rfl) (by kernel_rfl) (by kernel_rfl) (fun _ _ _ h => h) (Or.inl ⟨by kernel_rfl, ?_⟩) (by assumption) ?_
            rotate_left
            · (intro w hSw; (try dsimp only at hSw); go_simp; (try (with_reducible rfl)))
            try simp only [Act.put, List.setIfInBounds_toArray, List.set_cons_zero, List.set_cons_succ]
            obtain ⟨⟨n1, n2, n3, n4⟩, _, rfl, BX, SX, BW9⟩ := FT.out.done leaf
            have BX := Lib.hid BX
            have SX := Lib.hid SX
            have BW9 := Lib.hid BW9
            refine wpAnyH_ready (rs := [18]) (by kernel_rfl) (by simp) ?_
            refine AllReadyH.cons (o := ⟨none, _, _, _, _, _⟩) rfl (fun K hK => ?_) AllReadyH.nil
            go_simp
            refine hK.out _ _ (HK.out _ BW9.out) (fun hHeld => ?_)
            try simp only [Act.put, List.setIfInBounds_toArray, List.set_cons_zero, List.set_cons_succ]
            refine wpAnyH_done (by kernel_rfl) ?_ _
            go_wp2_with fail
            go_meet
            exact ⟨_, _, _, rfl, BX.out, SX.out, bstep OPR.out BW9.out⟩
       ·go_simp
        have FT := Lib.hid FT.out.node
        generalize (y1.alloc (.cells #[.bool false, .slice none 0 0] 24)) = y2 at *
        refine hK.out _ _ (HK.out _ FT.out.bw) (fun hHeld => ?_)
        try simp only [Act.put, List.setIfInBounds_toArray, List.set_cons_zero, List.set_cons_succ]
        refine wpAnyH_ready (rs := [7, 9]) (by kernel_rfl) (by simp) ?_
        refine AllReadyH.cons (o := ⟨some 70, _, _, _, _, _⟩) rfl (fun K hK => ?_) (AllReadyH.cons (o := ⟨some 72, _, _, _, _, _⟩) rfl (fun K hK => ?_) AllReadyH.nil)
        ·obtain ⟨V2, vc2, y3, ea, ft⟩ := AP7.out _ _ _ _ trivial FT.out
         have EA := Lib.hid ea
         have FT := Lib.hid ft
         clear ea ft
         go_simp
         rw [EA.out]
         go_simp
         refine hK.out _ _ (HK.out _ FT.out.bw) (fun hHeld => ?_)
         try simp only [Act.put, List.setIfInBounds_toArray, List.set_cons_zero, List.set_cons_succ]
         refine wpAnyH_ready (rs := [9]) (by kernel_rfl) (by simp) ?_
         refine AllReadyH.cons (o := ⟨some 72, _, _, _, _, _⟩) rfl (fun K hK => ?_) AllReadyH.nil
         ·go_simp
          have FT := Lib.hid FT.out.nine
          generalize (y3.alloc (.cells #[.string xk, .string xv, .int .i64 xf] 50)) = y4 at *
          refine hK.out _ _ (HK.out _ FT.out.bw) (fun hHeld => ?_)
          try simp only [Act.put, List.setIfInBounds_toArray, List.set_cons_zero, List.set_cons_succ]
          refine wpAnyH_ready (rs := [10]) (by kernel_rfl) (by simp) ?_
          refine AllReadyH.cons (o := ⟨some 73, _, _, _, _, _⟩) rfl (fun K hK => ?_) AllReadyH.nil
          ·obtain ⟨V2, vc2, y5, ea, ft⟩ := AP10.out _ _ _ _ trivial FT.out
           have EA := Lib.hid ea
           have FT := Lib.hid ft
           clear ea ft
           go_simp
           rw [EA.out]
           go_simp
           refine hK.out _ _ (HK.out _ FT.out.bw) (fun hHeld => ?_)
           try simp only [Act.put, List.setIfInBounds_toArray, List.set_cons_zero, List.set_cons_succ]
           refine wpAnyH_ready (rs := [15]) (by kernel_rfl) (by simp) ?_
           refine AllReadyH.cons (o := ⟨some 78, _, _, _, _, _⟩) rfl (fun K hK => ?_) AllReadyH.nil
           ·obtain ⟨V2, vc2, y6, ea, ft⟩ := AP15.out _ _ _ _ trivial FT.out
            have EA := Lib.hid ea
            have FT := Lib.hid ft
            clear ea ft
            go_simp
            rw [EA.out]
            go_simp
            refine hK.out _ _ (HK.out _ FT.out.bw) (fun hHeld => ?_)
            try simp only [Act.put, List.setIfInBounds_toArray, List.set_cons_zero, List.set_cons_succ]
            refine wpAnyH_take (i := 16) (oi := ⟨some 79, _, _, _, _, _⟩) (v := ?_) rfl (by kernel_rfl) (by kernel_rfl) (by kernel_rfl) (fun _ _ _ h => h) (Or.inl ⟨by kernel_rfl, ?_⟩) (by assumption) ?_
            rotate_left
            · (intro w hSw; (try dsimp only at hSw); go_simp; (try (with_reducible rfl)))
            try simp only [Act.put, List.setIfInBounds_toArray, List.set_cons_zero, List.set_cons_succ]
            obtain ⟨⟨n1, n2, n3, n4⟩, _, rfl, BX, SX, BW9⟩ := FT.out.done leaf
            have BX := Lib.hid BX
            have SX := Lib.hid SX
            have BW9 := Lib.hid BW9
            refine wpAnyH_ready (rs := [18]) (by kernel_rfl) (by simp) ?_
            refine AllReadyH.cons (o := ⟨none, _, _, _, _, _⟩) rfl (fun K hK => ?_) AllReadyH.nil
            go_simp
            refine hK.out _ _ (HK.out _ BW9.out) (fun hHeld => ?_)
            try simp only [Act.put, List.setIfInBounds_toArray, List.set_cons_zero, List.set_cons_succ]
            refine wpAnyH_done (by kernel_rfl) ?_ _
            go_wp2_with fail
            go_meet
            exact ⟨_, _, _, rfl, BX.out, SX.out, bstep OPR.out BW9.out⟩
        ·go_simp
         have FT := Lib.hid FT.out.nine
         generalize (y2.alloc (.cells #[.string xk, .string xv, .int .i64 xf] 50)) = y3 at *
         refine hK.out _ _ (HK.out _ FT.out.bw) (fun hHeld => ?_)
         try simp only [Act.put, List.setIfInBounds_toArray, List.set_cons_zero, List.set_cons_succ]
         refine wpAnyH_ready (rs := [7]) (by kernel_rfl) (by simp) ?_
         refine AllReadyH.cons (o := ⟨some 70, _, _, _, _, _⟩) rfl (fun K hK => ?_) AllReadyH.nil
         ·obtain ⟨V2, vc2, y4, ea, ft⟩ := AP7.out _ _ _ _ trivial FT.out
          have EA := Lib.hid ea
          have FT := Lib.hid ft
          clear ea ft
          go_simp
          rw [EA.out]
          go_simp
          refine hK.out _ _ (HK.out _ FT.out.bw) (fun hHeld => ?_)
          try simp only [Act.put, List.setIfInBounds_toArray, List.set_cons_zero, List.set_cons_succ]
          refine wpAnyH_ready (rs := [10]) (by kernel_rfl) (by simp) ?_
          refine AllReadyH.cons (o := ⟨some 73, _, _, _, _, _⟩) rfl (fun K hK => ?_) AllReadyH.nil
          ·obtain ⟨V2, vc2, y5, ea, ft⟩ := AP10.out _ _ _ _ trivial FT.out
           have EA := Lib.hid ea
           have FT := Lib.hid ft
           clear ea ft
           go_simp
           rw [EA.out]
           go_simp
           refine hK.out _ _ (HK.out _ FT.out.bw) (fun hHeld => ?_)
           try simp only [Act.put, List.setIfInBounds_toArray, List.set_cons_zero, List.set_cons_succ]
           refine wpAnyH_ready (rs := [15]) (by kernel_rfl) (by simp) ?_
           refine AllReadyH.cons (o := ⟨some 78, _, _, _, _, _⟩) rfl (fun K hK => ?_) AllReadyH.nil
           ·obtain ⟨V2, vc2, y6, ea, ft⟩ := AP15.out _ _ _ _ trivial FT.out
            have EA := Lib.hid ea
            have FT := Lib.hid ft
            clear ea ft
            go_simp
            rw [EA.out]
            go_simp
            refine hK.out _ _ (HK.out _ FT.out.bw) (fun hHeld => ?_)
            try simp only [Act.put, List.setIfInBounds_toArray, List.set_cons_zero, List.set_cons_succ]
            refine wpAnyH_take (i := 16) (oi := ⟨some 79, _, _, _, _, _⟩) (v := ?_) rfl (by kernel_rfl) (by kernel_rfl) (by kernel_rfl) (fun _ _ _ h => h) (Or.inl ⟨by kernel_rfl, ?_⟩) (by assumption) ?_
            rotate_left
            · (intro w hSw; (try dsimp only at hSw); go_simp; (try (with_reducible rfl)))
            try simp only [Act.put, List.setIfInBounds_toArray, List.set_cons_zero, List.set_cons_succ]
            obtain ⟨⟨n1, n2, n3, n4⟩, _, rfl, BX, SX, BW9⟩ := FT.out.done leaf
            have BX := Lib.hid BX
            have SX := Lib.hid SX
            have BW9 := Lib.hid BW9
            refine wpAnyH_ready (rs := [18]) (by kernel_rfl) (by simp) ?_
            refine AllReadyH.cons (o := ⟨none, _, _, _, _, _⟩) rfl (fun K hK => ?_) AllReadyH.nil
            go_simp
            refine hK.out _ _ (HK.out _ BW9.out) (fun hHeld => ?_)
            try simp only [Act.put, List.setIfInBounds_toArray, List.set_cons_zero, List.set_cons_succ]
            refine wpAnyH_done (by kernel_rfl) ?_ _
            go_wp2_with fail
            go_meet
            exact ⟨_, _, _, rfl, BX.out, SX.out, bstep OPR.out BW9.out⟩
      ·go_simp
       have FT := Lib.hid FT.out.nine
       generalize (wd.alloc (.cells #[.string xk, .string xv, .int .i64 xf] 50)) = y1 at *
       refine hK.out _ _ (HK.out _ FT.out.bw) (fun hHeld => ?_)
       try simp only [Act.put, List.setIfInBounds_toArray, List.set_cons_zero, List.set_cons_succ]
       refine wpAnyH_ready (rs := [2, 17]) (by kernel_rfl) (by simp) ?_
       refine AllReadyH.cons (o := ⟨some 65, _, _, _, _, _⟩) rfl (fun K hK => ?_) (AllReadyH.cons (o := ⟨some 9, _, _, _, _, _⟩) rfl (fun K hK => ?_) AllReadyH.nil)
       ·go_simp
        have FT := Lib.hid FT.out.two
        generalize (y1.alloc (.cells #[] 50)) = y2 at *
        refine hK.out _ _ (HK.out _ FT.out.bw) (fun hHeld => ?_)
        try simp only [Act.put, List.setIfInBounds_toArray, List.set_cons_zero, List.set_cons_succ]
        refine wpAnyH_ready (rs := [7, 17]) (by kernel_rfl) (by simp) ?_
        refine AllReadyH.cons (o := ⟨some 70, _, _, _, _, _⟩) rfl (fun K hK => ?_) (AllReadyH.cons (o := ⟨some 9, _, _, _, _, _⟩) rfl (fun K hK => ?_) AllReadyH.nil)
        ·obtain ⟨V2, vc2, y3, ea, ft⟩ := AP7.out _ _ _ _ trivial FT.out
         have EA := Lib.hid ea
         have FT := Lib.hid ft
         clear ea ft
         go_simp
         rw [EA.out]
         go_simp
         refine hK.out _ _ (HK.out _ FT.out.bw) (fun hHeld => ?_)
         try simp only [Act.put, List.setIfInBounds_toArray, List.set_cons_zero, List.set_cons_succ]
         refine wpAnyH_ready (rs := [10, 17]) (by kernel_rfl) (by simp) ?_
         refine AllReadyH.cons (o := ⟨some 73, _, _, _, _, _⟩) rfl (fun K hK => ?_) (AllReadyH.cons (o := ⟨some 9, _, _, _, _, _⟩) rfl (fun K hK => ?_) AllReadyH.nil)
         ·obtain ⟨V2, vc2, y4, ea, ft⟩ := AP10.out _ _ _ _ trivial FT.out
          have EA := Lib.hid ea
          have FT := Lib.hid ft
          clear ea ft
          go_simp
          rw [EA.out]
          go_simp
          refine hK.out _ _ (HK.out _ FT.out.bw) (fun hHeld => ?_)
          try simp only [Act.put, List.setIfInBounds_toArray, List.set_cons_zero, List.set_cons_succ]
          refine wpAnyH_ready (rs := [15, 17]) (by kernel_rfl) (by simp) ?_
          refine AllReadyH.cons (o := ⟨some 78, _, _, _, _, _⟩) rfl (fun K hK => ?_) (AllReadyH.cons (o := ⟨some 9, _, _, _, _, _⟩) rfl (fun K hK => ?_) AllReadyH.nil)
          ·obtain ⟨V2, vc2, y5, ea, ft⟩ := AP15.out _ _ _ _ trivial FT.out
           have EA := Lib.hid ea
           have FT := Lib.hid ft
           clear ea ft
           go_simp
           rw [EA.out]
           go_simp
           refine hK.out _ _ (HK.out _ FT.out.bw) (fun hHeld => ?_)
           try simp only [Act.put, List.setIfInBounds_toArray, List.set_cons_zero, List.set_cons_succ]
           refine wpAnyH_take (i := 16) (oi := ⟨some 79, _, _, _, _, _⟩) (v := ?_) rfl (by kernel_rfl) (by kernel_rfl) (by kernel_rfl) (fun _ _ _ h => h) (Or.inl ⟨by kernel_rfl, ?_⟩) (by assumption) ?_
           rotate_left
           · (intro w hSw; (try dsimp only at hSw); go_simp; (try (with_reducible rfl)))
           try simp only [Act.put, List.setIfInBounds_toArray, List.set_cons_zero, List.set_cons_succ]
           refine wpAnyH_ready (rs := [17]) (by kernel_rfl) (by simp) ?_
           refine AllReadyH.cons (o := ⟨some 9, _, _, _, _, _⟩) rfl (fun K hK => ?_) AllReadyH.nil
           ·go_simp
            have FT := Lib.hid FT.out.node
            generalize (y5.alloc (.cells #[.bool false, .slice none 0 0] 24)) = y6 at *
            refine hK.out _ _ (HK.out _ FT.out.bw) (fun hHeld => ?_)
            try simp only [Act.put, List.setIfInBounds_toArray, List.set_cons_zero, List.set_cons_succ]
            obtain ⟨⟨n1, n2, n3, n4⟩, _, rfl, BX, SX, BW9⟩ := FT.out.done leaf
            have BX := Lib.hid BX
            have SX := Lib.hid SX
            have BW9 := Lib.hid BW9
            refine wpAnyH_ready (rs := [18]) (by kernel_rfl) (by simp) ?_
            refine AllReadyH.cons (o := ⟨none, _, _, _, _, _⟩) rfl (fun K hK => ?_) AllReadyH.nil
            go_simp
            refine hK.out _ _ (HK.out _ BW9.out) (fun hHeld => ?_)
            try simp only [Act.put, List.setIfInBounds_toArray, List.set_cons_zero, List.set_cons_succ]
            refine wpAnyH_done (by kernel_rfl) ?_ _
            go_wp2_with fail
            go_meet
            exact ⟨_, _, _, rfl, BX.out, SX.out, bstep OPR.out BW9.out⟩
          ·go_simp
           have FT := Lib.hid FT.out.node
           generalize (y4.alloc (.cells #[.bool false, .slice none 0 0] 24)) = y5 at *
           refine hK.out _ _ (HK.out _ FT.out.bw) (fun hHeld => ?_)
           try simp only [Act.put, List.setIfInBounds_toArray, List.set_cons_zero, List.set_cons_succ]
           refine wpAnyH_ready (rs := [15]) (by kernel_rfl) (by simp) ?_
           refine AllReadyH.cons (o := ⟨some 78, _, _, _, _, _⟩) rfl (fun K hK => ?_) AllReadyH.nil
           ·obtain ⟨V2, vc2, y6, ea, ft⟩ := AP15.out _ _ _ _ trivial FT.out
            have EA := Lib.hid ea
            have FT := Lib.hid ft
            clear ea ft
            go_simp
            rw [EA.out]
            go_simp
            refine hK.out _ _ (HK.out _ FT.out.bw) (fun hHeld => ?_)
            try simp only [Act.put, List.setIfInBounds_toArray, List.set_cons_zero, List.set_cons_succ]
            refine wpAnyH_take (i := 16) (oi := ⟨some 79, _, _, _, _, _⟩) (v := ?_) rfl (by kernel_rfl) (by kernel_rfl) (by kernel_rfl) (fun _ _ _ h => h) (Or.inl ⟨by kernel_rfl, ?_⟩) (by assumption) ?_
            rotate_left
            · (intro w hSw; (try dsimp only at hSw); go_simp; (try (with_reducible rfl)))
            try simp only [Act.put, List.setIfInBounds_toArray, List.set_cons_zero, List.set_cons_succ]
            obtain ⟨⟨n1, n2, n3, n4⟩, _, rfl, BX, SX, BW9⟩ := FT.out.done leaf
            have BX := Lib.hid BX
            have SX := Lib.hid SX
            have BW9 := Lib.hid BW9
            refine wpAnyH_ready (rs := [18]) (by kernel_rfl) (by simp) ?_
            refine AllReadyH.cons (o := ⟨none, _, _, _, _, _⟩) rfl (fun K hK => ?_) AllReadyH.nil
            go_simp
            refine hK.out _ _ (HK.out _ BW9.out) (fun hHeld => ?_)
            try simp only [Act.put, List.setIfInBounds_toArray, List.set_cons_zero, List.set_cons_succ]
            refine wpAnyH_done (by kernel_rfl) ?_ _
            go_wp2_with fail
            go_meet
            exact ⟨_, _, _, rfl, BX.out, SX.out, bstep OPR.out BW9.out⟩
         ·go_simp
          have FT := Lib.hid FT.out.node
          generalize (y3.alloc (.cells #[.bool false, .slice none 0 0] 24)) = y4 at *
          refine hK.out _ _ (HK.out _ FT.out.bw) (fun hHeld => ?_)
          try simp only [Act.put, List.setIfInBounds_toArray, List.set_cons_zero, List.set_cons_succ]
          refine wpAnyH_ready (rs := [10]) (by kernel_rfl) (by simp) ?_
          refine AllReadyH.cons (o := ⟨some 73, _, _, _, _, _⟩) rfl (fun K hK => ?_) AllReadyH.nil
          ·obtain ⟨V2, vc2, y5, ea, ft⟩ := AP10.out _ _ _ _ trivial FT.out
           have EA := Lib.hid ea
           have FT := Lib.hid ft
           clear ea ft
           go_simp
           rw [EA.out]
           go_simp
           refine hK.out _ _ (HK.out _ FT.out.bw) (fun hHeld => ?_)
           try simp only [Act.put, List.setIfInBounds_toArray, List.set_cons_zero, List.set_cons_succ]
           refine wpAnyH_ready (rs := [15]) (by kernel_rfl) (by simp) ?_
           refine AllReadyH.cons (o := ⟨some 78, _, _, _, _, _⟩) rfl (fun K hK => ?_) AllReadyH.nil
           ·obtain ⟨V2, vc2, y6, ea, ft⟩ := AP15.out _ _ _ _ trivial FT.out
            have EA := Lib.hid ea
            have FT := Lib.hid ft
            clear ea ft
            go_simp
            rw [EA.out]
            go_simp
            refine hK.out _ _ (HK.out _ FT.out.bw) (fun hHeld => ?_)
            try simp only [Act.put, List.setIfInBounds_toArray, List.set_cons_zero, List.set_cons_succ]
            refine wpAnyH_take (i := 16) (oi := ⟨some 79, _, _, _, _, _⟩) (v := ?_) rfl (by kernel_rfl) (by kernel_rfl) (by kernel_rfl) (fun _ _ _ h => h) (Or.inl ⟨by kernel_rfl, ?_⟩) (by assumption) ?_
            rotate_left
            · (intro w hSw; (try dsimp only at hSw); go_simp; (try (with_reducible rfl)))
            try simp only [Act.put, List.setIfInBounds_toArray, List.set_cons_zero, List.set_cons_succ]
            obtain ⟨⟨n1, n2, n3, n4⟩, _, rfl, BX, SX, BW9⟩ := FT.out.done leaf
            have BX := Lib.hid BX
            have SX := Lib.hid SX
            have BW9 := Lib.hid BW9
            refine wpAnyH_ready (rs := [18]) (by kernel_rfl) (by simp) ?_
            refine AllReadyH.cons (o := ⟨none, _, _, _, _, _⟩) rfl (fun K hK => ?_) AllReadyH.nil
            go_simp
            refine hK.out _ _ (HK.out _ BW9.out) (fun hHeld => ?_)
            try simp only [Act.put, List.setIfInBounds_toArray, List.set_cons_zero, List.set_cons_succ]
            refine wpAnyH_done (by kernel_rfl) ?_ _
            go_wp2_with fail
            go_meet
            exact ⟨_, _, _, rfl, BX.out, SX.out, bstep OPR.out BW9.out⟩
        ·go_simp
         have FT := Lib.hid FT.out.node
         generalize (y2.alloc (.cells #[.bool false, .slice none 0 0] 24)) = y3 at *
         refine hK.out _ _ (HK.out _ FT.out.bw) (fun hHeld => ?_)
         try simp only [Act.put, List.setIfInBounds_toArray, List.set_cons_zero, List.set_cons_succ]
         refine wpAnyH_ready (rs := [7]) (by kernel_rfl) (by simp) ?_
         refine AllReadyH.cons (o := ⟨some 70, _, _, _, _, _⟩) rfl (fun K hK => ?_) AllReadyH.nil
         ·obtain ⟨V2, vc2, y4, ea, ft⟩ := AP7.out _ _ _ _ trivial FT.out
          have EA := Lib.hid ea
          have FT := Lib.hid ft
          clear ea ft
          go_simp
          rw [EA.out]
          go_simp
          refine hK.out _ _ (HK.out _ FT.out.bw) (fun hHeld => ?_)
          try simp only [Act.put, List.setIfInBounds_toArray, List.set_cons_zero, List.set_cons_succ]
          refine wpAnyH_ready (rs := [10]) (by kernel_rfl) (by simp) ?_
          refine AllReadyH.cons (o := ⟨some 73, _, _, _, _, _⟩) rfl (fun K hK => ?_) AllReadyH.nil
          ·obtain ⟨V2, vc2, y5, ea, ft⟩ := AP10.out _ _ _ _ trivial FT.out
           have EA := Lib.hid ea
           have FT := Lib.hid ft
           clear ea ft
           go_simp
           rw [EA.out]
           go_simp
           refine hK.out _ _ (HK.out _ FT.out.bw) (fun hHeld => ?_)
           try simp only [Act.put, List.setIfInBounds_toArray, List.set_cons_zero, List.set_cons_succ]
           refine wpAnyH_ready (rs := [15]) (by kernel_rfl) (by simp) ?_
           refine AllReadyH.cons (o := ⟨some 78, _, _, _, _, _⟩) rfl (fun K hK => ?_) AllReadyH.nil
           ·obtain ⟨V2, vc2, y6, ea, ft⟩ := AP15.out _ _ _ _ trivial FT.out
            have EA := Lib.hid ea
            have FT := Lib.hid ft
            clear ea ft
            go_simp
            rw [EA.out]
            go_simp
            refine hK.out _ _ (HK.out _ FT.out.bw) (fun hHeld => ?_)
            try simp only [Act.put, List.setIfInBounds_toArray, List.set_cons_zero, List.set_cons_succ]
            refine wpAnyH_take (i := 16) (oi := ⟨some 79, _, _, _, _, _⟩) (v := ?_) rfl (by kernel_rfl) (by kernel_rfl) (by kernel_rfl) (fun _ _ _ h => h) (Or.inl ⟨by kernel_rfl, ?_⟩) (by assumption) ?_
            rotate_left
            · (intro w hSw; (try dsimp only at hSw); go_simp; (try (with_reducible rfl)))
            try simp only [Act.put, List.setIfInBounds_toArray, List.set_cons_zero, List.set_cons_succ]
            obtain ⟨⟨n1, n2, n3, n4⟩, _, rfl, BX, SX, BW9⟩ := FT.out.done leaf
            have BX := Lib.hid BX
            have SX := Lib.hid SX
            have BW9 := Lib.hid BW9
            refine wpAnyH_ready (rs := [18]) (by kernel_rfl) (by simp) ?_
            refine AllReadyH.cons (o := ⟨none, _, _, _, _, _⟩) rfl (fun K hK => ?_) AllReadyH.nil
            go_simp
            refine hK.out _ _ (HK.out _ BW9.out) (fun hHeld => ?_)
            try simp only [Act.put, List.setIfInBounds_toArray, List.set_cons_zero, List.set_cons_succ]
            refine wpAnyH_done (by kernel_rfl) ?_ _
            go_wp2_with fail
            go_meet
            exact ⟨_, _, _, rfl, BX.out, SX.out, bstep OPR.out BW9.out⟩
       ·go_simp
        have FT := Lib.hid FT.out.node
        generalize (y1.alloc (.cells #[.bool false, .slice none 0 0] 24)) = y2 at *
        refine hK.out _ _ (HK.out _ FT.out.bw) (fun hHeld => ?_)
        try simp only [Act.put, List.setIfInBounds_toArray, List.set_cons_zero, List.set_cons_succ]
        refine wpAnyH_ready (rs := [2]) (by kernel_rfl) (by simp) ?_
        refine AllReadyH.cons (o := ⟨some 65, _, _, _, _, _⟩) rfl (fun K hK => ?_) AllReadyH.nil
        ·go_simp
         have FT := Lib.hid FT.out.two
         generalize (y2.alloc (.cells #[] 50)) = y3 at *
         refine hK.out _ _ (HK.out _ FT.out.bw) (fun hHeld => ?_)
         try simp only [Act.put, List.setIfInBounds_toArray, List.set_cons_zero, List.set_cons_succ]
         refine wpAnyH_ready (rs := [7]) (by kernel_rfl) (by simp) ?_
         refine AllReadyH.cons (o := ⟨some 70, _, _, _, _, _⟩) rfl (fun K hK => ?_) AllReadyH.nil
         ·obtain ⟨V2, vc2, y4, ea, ft⟩ := AP7.out _ _ _ _ trivial FT.out
          have EA := Lib.hid ea
          have FT := Lib.hid ft
          clear ea ft
          go_simp
          rw [EA.out]
          go_simp
          refine hK.out _ _ (HK.out _ FT.out.bw) (fun hHeld => ?_)
          try simp only [Act.put, List.setIfInBounds_toArray, List.set_cons_zero, List.set_cons_succ]
          refine wpAnyH_ready (rs := [10]) (by kernel_rfl) (by simp) ?_
          refine AllReadyH.cons (o := ⟨some 73, _, _, _, _, _⟩) rfl (fun K hK => ?_) AllReadyH.nil
          ·obtain ⟨V2, vc2, y5, ea, ft⟩ := AP10.out _ _ _ _ trivial FT.out
           have EA := Lib.hid ea
           have FT := Lib.hid ft
           clear ea ft
           go_simp
           rw [EA.out]
           go_simp
           refine hK.out _ _ (HK.out _ FT.out.bw) (fun hHeld => ?_)
           try simp only [Act.put, List.setIfInBounds_toArray, List.set_cons_zero, List.set_cons_succ]
           refine wpAnyH_ready (rs := [15]) (by kernel_rfl) (by simp) ?_
           refine AllReadyH.cons (o := ⟨some 78, _, _, _, _, _⟩) rfl (fun K hK => ?_) AllReadyH.nil
           ·obtain ⟨V2, vc2, y6, ea, ft⟩ := AP15.out _ _ _ _ trivial FT.out
            have EA := Lib.hid ea
            have FT := Lib.hid ft
            clear ea ft
            go_simp
            rw [EA.out]
            go_simp
            refine hK.out _ _ (HK.out _ FT.out.bw) (fun hHeld => ?_)
            try simp only [Act.put, List.setIfInBounds_toArray, List.set_cons_zero, List.set_cons_succ]
            refine wpAnyH_take (i := 16) (oi := ⟨some 79, _, _, _, _, _⟩) (v := ?_) rfl (by kernel_rfl) (by kernel_rfl) (by kernel_rfl) (fun _ _ _ h => h) (Or.inl ⟨by kernel_rfl, ?_⟩) (by assumption) ?_
            rotate_left
            · (intro w hSw; (try dsimp only at hSw); go_simp; (try (with_reducible rfl)))
            try simp only [Act.put, List.setIfInBounds_toArray, List.set_cons_zero, List.set_cons_succ]
            obtain ⟨⟨n1, n2, n3, n4⟩, _, rfl, BX, SX, BW9⟩ := FT.out.done leaf
            have BX := Lib.hid BX
            have SX := Lib.hid SX
            have BW9 := Lib.hid BW9
            refine wpAnyH_ready (rs := [18]) (by kernel_rfl) (by simp) ?_
            refine AllReadyH.cons (o := ⟨none, _, _, _, _, _⟩) rfl (fun K hK => ?_) AllReadyH.nil
            go_simp
            refine hK.out _ _ (HK.out _ BW9.out) (fun hHeld => ?_)
            try simp only [Act.put, List.setIfInBounds_toArray, List.set_cons_zero, List.set_cons_succ]
            refine wpAnyH_done (by kernel_rfl) ?_ _
            go_wp2_with fail
            go_meet
            exact ⟨_, _, _, rfl, BX.out, SX.out, bstep OPR.out BW9.out⟩
      ·go_simp
       have FT := Lib.hid FT.out.node
       generalize (wd.alloc (.cells #[.bool false, .slice none 0 0] 24)) = y1 at *
       refine hK.out _ _ (HK.out _ FT.out.bw) (fun hHeld => ?_)
       try simp only [Act.put, List.setIfInBounds_toArray, List.set_cons_zero, List.set_cons_succ]
       refine wpAnyH_ready (rs := [2, 9]) (by kernel_rfl) (by simp) ?_
       refine AllReadyH.cons (o := ⟨some 65, _, _, _, _, _⟩) rfl (fun K hK => ?_) (AllReadyH.cons (o := ⟨some 72, _, _, _, _, _⟩) rfl (fun K hK => ?_) AllReadyH.nil)
       ·go_simp
        have FT := Lib.hid FT.out.two
        generalize (y1.alloc (.cells #[] 50)) = y2 at *
        refine hK.out _ _ (HK.out _ FT.out.bw) (fun hHeld => ?_)
        try simp only [Act.put, List.setIfInBounds_toArray, List.set_cons_zero, List.set_cons_succ]
        refine wpAnyH_ready (rs := [7, 9]) (by kernel_rfl) (by simp) ?_
        refine AllReadyH.cons (o := ⟨some 70, _, _, _, _, _⟩) rfl (fun K hK => ?_) (AllReadyH.cons (o := ⟨some 72, _, _, _, _, _⟩) rfl (fun K hK => ?_) AllReadyH.nil)
        ·obtain ⟨V2, vc2, y3, ea, ft⟩ := AP7.out _ _ _ _ trivial FT.out
         have EA := Lib.hid ea
         have FT := Lib.hid ft
         clear ea ft
         go_simp
         rw [EA.out]
         go_simp
         refine hK.out _ _ (HK.out _ FT.out.bw) (fun hHeld => ?_)
         try simp only [Act.put, List.setIfInBounds_toArray, List.set_cons_zero, List.set_cons_succ]
         refine wpAnyH_ready (rs := [9]) (by kernel_rfl) (by simp) ?_
         refine AllReadyH.cons (o := ⟨some 72, _, _, _, _, _⟩) rfl (fun K hK => ?_) AllReadyH.nil
         ·go_simp
          have FT := Lib.hid FT.out.nine
          generalize (y3.alloc (.cells #[.string xk, .string xv, .int .i64 xf] 50)) = y4 at *
          refine hK.out _ _ (HK.out _ FT.out.bw) (fun hHeld => ?_)
          try simp only [Act.put, List.setIfInBounds_toArray, List.set_cons_zero, List.set_cons_succ]
          refine wpAnyH_ready (rs := [10]) (by kernel_rfl) (by simp) ?_
          refine AllReadyH.cons (o := ⟨some 73, _, _, _, _, _⟩) rfl (fun K hK => ?_) AllReadyH.nil
          ·obtain ⟨V2, vc2, y5, ea, ft⟩ := AP10.out _ _ _ _ trivial FT.out
           have EA := Lib.hid ea
           have FT := Lib.hid ft
           clear ea ft
           go_simp
           rw [EA.out]
           go_simp
           refine hK.out _ _ (HK.out _ FT.out.bw) (fun hHeld => ?_)
           try simp only [Act.put, List.setIfInBounds_toArray, List.set_cons_zero, List.set_cons_succ]
           refine wpAnyH_ready (rs := [15]) (by kernel_rfl) (by simp) ?_
           refine AllReadyH.cons (o := ⟨some 78, _, _, _, _, _⟩) rfl (fun K hK => ?_) AllReadyH.nil
           ·obtain ⟨V2, vc2, y6, ea, ft⟩ := AP15.out _ _ _ _ trivial FT.out
            have EA := Lib.hid ea
            have FT := Lib.hid ft
            clear ea ft
            go_simp
            rw [EA.out]
            go_simp
            refine hK.out _ _ (HK.out _ FT.out.bw) (fun hHeld => ?_)
            try simp only [Act.put, List.setIfInBounds_toArray, List.set_cons_zero, List.set_cons_succ]
            refine wpAnyH_take (i := 16) (oi := ⟨some 79, _, _, _, _, _⟩) (v := ?_) rfl (by kernel_rfl) (by kernel_rfl) (by kernel_rfl) (fun _ _ _ h => h) (Or.inl ⟨by kernel_rfl, ?_⟩) (by assumption) ?_
            rotate_left
            · (intro w hSw; (try dsimp only at hSw); go_simp; (try (with_reducible rfl)))
            try simp only [Act.put, List.setIfInBounds_toArray, List.set_cons_zero, List.set_cons_succ]
            obtain ⟨⟨n1, n2, n3, n4⟩, _, rfl, BX, SX, BW9⟩ := FT.out.done leaf
            have BX := Lib.hid BX
            have SX := Lib.hid SX
            have BW9 := Lib.hid BW9
            refine wpAnyH_ready (rs := [18]) (by kernel_rfl) (by simp) ?_
            refine AllReadyH.cons (o := ⟨none, _, _, _, _, _⟩) rfl (fun K hK => ?_) AllReadyH.nil
            go_simp
            refine hK.out _ _ (HK.out _ BW9.out) (fun hHeld => ?_)
            try simp only [Act.put, List.setIfInBounds_toArray, List.set_cons_zero, List.set_cons_succ]
            refine wpAnyH_done (by kernel_rfl) ?_ _
            go_wp2_with fail
            go_meet
            exact ⟨_, _, _, rfl, BX.out, SX.out, bstep OPR.out BW9.out⟩
        ·go_simp
         have FT := Lib.hid FT.out.nine
         generalize (y2.alloc (.cells #[.string xk, .string xv, .int .i64 xf] 50)) = y3 at *
         refine hK.out _ _ (HK.out _ FT.out.bw) (fun hHeld => ?_)
         try simp only [Act.put, List.setIfInBounds_toArray, List.set_cons_zero, List.set_cons_succ]
         refine wpAnyH_ready (rs := [7]) (by kernel_rfl) (by simp) ?_
         refine AllReadyH.cons (o := ⟨some 70, _, _, _, _, _⟩) rfl (fun K hK => ?_) AllReadyH.nil
         ·obtain ⟨V2, vc2, y4, ea, ft⟩ := AP7.out _ _ _ _ trivial FT.out
          have EA := Lib.hid ea
          have FT := Lib.hid ft
          clear ea ft
          go_simp
          rw [EA.out]
          go_simp
          refine hK.out _ _ (HK.out _ FT.out.bw) (fun hHeld => ?_)
          try simp only [Act.put, List.setIfInBounds_toArray, List.set_cons_zero, List.set_cons_succ]
          refine wpAnyH_ready (rs := [10]) (by kernel_rfl) (by simp) ?_
          refine AllReadyH.cons (o := ⟨some 73, _, _, _, _, _⟩) rfl (fun K hK => ?_) AllReadyH.nil
          ·obtain ⟨V2, vc2, y5, ea, ft⟩ := AP10.out _ _ _ _ trivial FT.out
           have EA := Lib.hid ea
           have FT := Lib.hid ft
           clear ea ft
           go_simp
           rw [EA.out]
           go_simp
           refine hK.out _ _ (HK.out _ FT.out.bw) (fun hHeld => ?_)
           try simp only [Act.put, List.setIfInBounds_toArray, List.set_cons_zero, List.set_cons_succ]
           refine wpAnyH_ready (rs := [15]) (by kernel_rfl) (by simp) ?_
           refine AllReadyH.cons (o := ⟨some 78, _, _, _, _, _⟩) rfl (fun K hK => ?_) AllReadyH.nil
           ·obtain ⟨V2, vc2, y6, ea, ft⟩ := AP15.out _ _ _ _ trivial FT.out
            have EA := Lib.hid ea
            have FT := Lib.hid ft
            clear ea ft
            go_simp
            rw [EA.out]
            go_simp
            refine hK.out _ _ (HK.out _ FT.out.bw) (fun hHeld => ?_)
            try simp only [Act.put, List.setIfInBounds_toArray, List.set_cons_zero, List.set_cons_succ]
            refine wpAnyH_take (i := 16) (oi := ⟨some 79, _, _, _, _, _⟩) (v := ?_) rfl (by kernel_rfl) (by kernel_rfl) (by kernel_rfl) (fun _ _ _ h => h) (Or.inl ⟨by kernel_rfl, ?_⟩) (by assumption) ?_
            rotate_left
            · (intro w hSw; (try dsimp only at hSw); go_simp; (try (with_reducible rfl)))
            try simp only [Act.put, List.setIfInBounds_toArray, List.set_cons_zero, List.set_cons_succ]
            obtain ⟨⟨n1, n2, n3, n4⟩, _, rfl, BX, SX, BW9⟩ := FT.out.done leaf
            have BX := Lib.hid BX
            have SX := Lib.hid SX
            have BW9 := Lib.hid BW9
            refine wpAnyH_ready (rs := [18]) (by kernel_rfl) (by simp) ?_
            refine AllReadyH.cons (o := ⟨none, _, _, _, _, _⟩) rfl (fun K hK => ?_) AllReadyH.nil
            go_simp
            refine hK.out _ _ (HK.out _ BW9.out) (fun hHeld => ?_)
            try simp only [Act.put, List.setIfInBounds_toArray, List.set_cons_zero, List.set_cons_succ]
            refine wpAnyH_done (by kernel_rfl) ?_ _
            go_wp2_with fail
            go_meet
            exact ⟨_, _, _, rfl, BX.out, SX.out, bstep OPR.out BW9.out⟩
       ·go_simp
        have FT := Lib.hid FT.out.nine
        generalize (y1.alloc (.cells #[.string xk, .string xv, .int .i64 xf] 50)) = y2 at *
        refine hK.out _ _ (HK.out _ FT.out.bw) (fun hHeld => ?_)
        try simp only [Act.put, List.setIfInBounds_toArray, List.set_cons_zero, List.set_cons_succ]
        refine wpAnyH_ready (rs := [2]) (by kernel_rfl) (by simp) ?_
        refine AllReadyH.cons (o := ⟨some 65, _, _, _, _, _⟩) rfl (fun K hK => ?_) AllReadyH.nil
        ·go_simp
         have FT := Lib.hid FT.out.two
         generalize (y2.alloc (.cells #[] 50)) = y3 at *
         refine hK.out _ _ (HK.out _ FT.out.bw) (fun hHeld => ?_)
         try simp only [Act.put, List.setIfInBounds_toArray, List.set_cons_zero, List.set_cons_succ]
         refine wpAnyH_ready (rs := [7]) (by kernel_rfl) (by simp) ?_
         refine AllReadyH.cons (o := ⟨some 70, _, _, _, _, _⟩) rfl (fun K hK => ?_) AllReadyH.nil
         ·obtain ⟨V2, vc2, y4, ea, ft⟩ := AP7.out _ _ _ _ trivial FT.out
          have EA := Lib.hid ea
          have FT := Lib.hid ft
          clear ea ft
          go_simp
          rw [EA.out]
          go_simp
          refine hK.out _ _ (HK.out _ FT.out.bw) (fun hHeld => ?_)
          try simp only [Act.put, List.setIfInBounds_toArray, List.set_cons_zero, List.set_cons_succ]
          refine wpAnyH_ready (rs := [10]) (by kernel_rfl) (by simp) ?_
          refine AllReadyH.cons (o := ⟨some 73, _, _, _, _, _⟩) rfl (fun K hK => ?_) AllReadyH.nil
          ·obtain ⟨V2, vc2, y5, ea, ft⟩ := AP10.out _ _ _ _ trivial FT.out
           have EA := Lib.hid ea
           have FT := Lib.hid ft
           clear ea ft
           go_simp
           rw [EA.out]
           go_simp
           refine hK.out _ _ (HK.out _ FT.out.bw) (fun hHeld => ?_)
           try simp only [Act.put, List.setIfInBounds_toArray, List.set_cons_zero, List.set_cons_succ]
           refine wpAnyH_ready (rs := [15]) (by kernel_rfl) (by simp) ?_
           refine AllReadyH.cons (o := ⟨some 78, _, _, _, _, _⟩) rfl (fun K hK => ?_) AllReadyH.nil
           ·obtain ⟨V2, vc2, y6, ea, ft⟩ := AP15.out _ _ _ _ trivial FT.out
            have EA := Lib.hid ea
            have FT := Lib.hid ft
            clear ea ft
            go_simp
            rw [EA.out]
            go_simp
            refine hK.out _ _ (HK.out _ FT.out.bw) (fun hHeld => ?_)
            try simp only [Act.put, List.setIfInBounds_toArray, List.set_cons_zero, List.set_cons_succ]
            refine wpAnyH_take (i := 16) (oi := ⟨some 79, _, _, _, _, _⟩) (v := ?_) rfl (by kernel_rfl) (by kernel_rfl) (by kernel_rfl) (fun _ _ _ h => h) (Or.inl ⟨by kernel_rfl, ?_⟩) (by assumption) ?_
            rotate_left
            · (intro w hSw; (try dsimp only at hSw); go_simp; (try (with_reducible rfl)))
            try simp only [Act.put, List.setIfInBounds_toArray, List.set_cons_zero, List.set_cons_succ]
            obtain ⟨⟨n1, n2, n3, n4⟩, _, rfl, BX, SX, BW9⟩ := FT.out.done leaf
            have BX := Lib.hid BX
            have SX := Lib.hid SX
            have BW9 := Lib.hid BW9
            refine wpAnyH_ready (rs := [18]) (by kernel_rfl) (by simp) ?_
            refine AllReadyH.cons (o := ⟨none, _, _, _, _, _⟩) rfl (fun K hK => ?_) AllReadyH.nil
            go_simp
            refine hK.out _ _ (HK.out _ BW9.out) (fun hHeld => ?_)
            try simp only [Act.put, List.setIfInBounds_toArray, List.set_cons_zero, List.set_cons_succ]
            refine wpAnyH_done (by kernel_rfl) ?_ _
            go_wp2_with fail
            go_meet
            exact ⟨_, _, _, rfl, BX.out, SX.out, bstep OPR.out BW9.out⟩
    case rest =>
      obtain ⟨g9, V, vc, rfl, BX, SX, OC⟩ := hcut
      obtain ⟨m, hmm⟩ : ∃ m, l.take k ++ [(⟨xk, xv, xf⟩ : E)] ++ l.drop k = m := ⟨_, rfl⟩
      have hlen := HLEN.out
      have hml : m.length = n + 1 := by rw [← hmm]; simp; omega
      have hmb : bytesF m = bytesF l + (xk.size + xv.size + 7) := by
        rw [← hmm, bytesF_append, bytesF_append, bytesF_drop l k]
        have : bytesF [(⟨xk, xv, xf⟩ : E)] = xk.size + xv.size + 7 := by simp [bytesF]
        omega
      have HMX := Lib.hid (show (⟨xk, xv, xf⟩ : E) ∈ m from by rw [← hmm]; simp)
      have HML := Lib.hid hml
      have HMB := Lib.hid hmb
      rw [hmm] at SX
      have EM := Lib.hid (Slc.ents SX).2
      have BX := Lib.hid BX
      have OC := Lib.hid OC
      have b0 : wc.cell? ⟨g9, 0, none⟩ = some (.bool leaf) := BX.out.cell_some (i := 0) rfl
      have b1 : wc.cell? ⟨g9, 1, none⟩ = some (.slice V (n + 1) vc) := BX.out.cell_some (i := 1) rfl
      clear hmm hlen hml hmb SX
      obtain ⟨q, hq⟩ := bool_of (mayP m leaf)
      have KR := Lib.hid (right_ref (w := wc) leaf V (n + 1) vc m EM.out (by omega) q hq)
      unfold nodeV at KR
      have HQ := Lib.hid hq
      clear hq
      go_wp2_with fail
      refine KR.out.mono ?_
      rintro e w6 ⟨rfl, hb6⟩
      have O6 := Lib.hid (bstep OC.out hb6)
      have B6 := Lib.hid (BX.out.below hb6 BX.out.lt)
      have E6 := Lib.hid (EM.out.below hb6)
      clear hb6 KR b0 b1
      have b0 : w6.cell? ⟨g9, 0, none⟩ = some (.bool leaf) := B6.out.cell_some (i := 0) rfl
      have b1 : w6.cell? ⟨g9, 1, none⟩ = some (.slice V (n + 1) vc) := B6.out.cell_some (i := 1) rfl
      cases q
      · go_wp2_with fail
        refine (awake18_any _).mono ?_
        rintro e wz ⟨rfl, hbz⟩
        have OZ := Lib.hid (bstep O6.out hbz)
        clear hbz
        go_wp2_with fail
        go_ret
        exact ⟨by first | rfl | simp, OZ.out⟩
      · by_cases hn0 : n = 0
        · have hn1 : (n : Int) + 1 < 2 := by omega
          clear hn0
          go_wp2_with fail
          refine (awake18_any _).mono ?_
          rintro e wz ⟨rfl, hbz⟩
          have OZ := Lib.hid (bstep O6.out hbz)
          clear hbz
          go_wp2_with fail
          go_ret
          exact ⟨by first | rfl | simp, OZ.out⟩
        · have hn1 : ¬ (n : Int) + 1 < 2 := by omega
          have HM2 := Lib.hid (HQ.out.1 (by trivial))
          have hbl : bytesF l ≤ 223 := by have := HR.out; rw [room_bytes] at this; omega
          have HCO := Lib.hid (may_cost HM2.out)
          have hcx := HCO.out _ HMX.out
          have hbm : bytesF m ≤ 302 := by rw [HMB.out]; unfold cost at hcx; dsimp only at hcx; omega
          have KT3 := Lib.hid (to_any (w := w6) leaf V (n + 1) vc m E6.out (by omega))
          unfold nodeV at KT3
          clear hcx
          go_wp2_with fail
          refine KT3.out.mono ?_
          rintro e w7 ⟨⟨TB, tb, rfl, SB, -⟩, hb7⟩
          have O7 := Lib.hid (bstep O6.out hb7)
          have KH := Lib.hid (halves_any leaf TB (n + 1) tb m SB (by omega) (by omega) (by omega))
          unfold nodeV at KH
          clear hb7 SB KT3 b0 b1
          go_wp2_with fail
          refine KH.out.mono ?_
          rintro e w8 ⟨⟨t, A1, c1, A2, c2, rfl, hbt, S1, S2⟩, hb8⟩
          have O8 := Lib.hid (bstep O7.out hb8)
          have HBT := Lib.hid hbt
          have ht1 := hbt.1
          have ht2 := hbt.2.1
          have HFIT := Lib.hid (best_fits HCO.out (by rw [HML.out]; omega) hbm (by rw [HML.out]; exact hbt))
          have S1 := Lib.hid S1
          have S2 := Lib.hid S2
          clear hb8 hbt KH
          go_wp2_with fail
          have C2 := Blk.new (w8.alloc (.cells #[.bool leaf, .slice A1 t c1] 32)) 32 #[.bool leaf, .slice A2 (n + 1 - t) c2]
          rw [asz] at C2
          have C2 := Lib.hid C2
          have a9 := belowAlloc (belowAlloc (Below.refl w8.heap.size w8) (.cells #[.bool leaf, .slice A1 t c1] 32)) (.cells #[.bool leaf, .slice A2 (n + 1 - t) c2] 32)
          have O9 := Lib.hid (bstep O8.out a9)
          have T1 := Lib.hid ((Slc.ents S1.out).2.below a9)
          have T2 := Lib.hid ((Slc.ents S2.out).2.below a9)
          have KP1 := Lib.hid (put_yes (w := (w8.alloc (.cells #[.bool leaf, .slice A1 t c1] 32)).alloc (.cells #[.bool leaf, .slice A2 (n + 1 - t) c2] 32)) leaf A1 t c1 (m.take t) T1.out (by omega) (may_take HM2.out t))
          unfold nodeV at KP1
          generalize hw9 : ((w8.alloc (.cells #[.bool leaf, .slice A1 t c1] 32)).alloc (.cells #[.bool leaf, .slice A2 (n + 1 - t) c2] 32)) = w9 at *
          clear hw9 a9
          refine KP1.out.mono ?_
          rintro e w10 ⟨hx, hb10⟩
          obtain ⟨Q1, rfl⟩ : ∃ T : ByteArray, e = .returned (.tuple #[.string T, .int .i64 0]) := by
            rcases hx with ⟨_, b, rfl, _, _⟩ | ⟨h0, _⟩
            · exact ⟨b, rfl⟩
            · rw [room_bytes] at h0; have := HFIT.out.1; omega
          have O10 := Lib.hid (bstep O9.out hb10)
          have C3 := Lib.hid (C2.out.below hb10 C2.out.lt)
          have T3 := Lib.hid (T2.out.below hb10)
          have d0 : w10.cell? ⟨w8.heap.size + 1, 0, none⟩ = some (.bool leaf) := C3.out.cell_some (i := 0) rfl
          have d1 : w10.cell? ⟨w8.heap.size + 1, 1, none⟩ = some (.slice A2 (n + 1 - t) c2) := C3.out.cell_some (i := 1) rfl
          have KP2 := Lib.hid (put_yes (w := w10) leaf A2 (n + 1 - t) c2 (m.drop t) T3.out (by omega) (may_drop HM2.out t))
          unfold nodeV at KP2
          clear hb10 hx KP1
          go_wp2_with fail
          refine KP2.out.mono ?_
          rintro e w11 ⟨hx, hb11⟩
          obtain ⟨Q2, rfl⟩ : ∃ T : ByteArray, e = .returned (.tuple #[.string T, .int .i64 0]) := by
            rcases hx with ⟨_, b, rfl, _, _⟩ | ⟨h0, _⟩
            · exact ⟨b, rfl⟩
            · rw [room_bytes] at h0; have := HFIT.out.2; omega
          have O11 := Lib.hid (bstep O10.out hb11)
          clear hb11 hx KP2 d0 d1
          go_wp2_with fail
          refine (awake18_any _).mono ?_
          rintro e wz ⟨rfl, hbz⟩
          have OZ := Lib.hid (bstep O11.out hbz)
          clear hbz
          go_wp2_with fail
          go_ret
          exact ⟨by first | rfl | simp, OZ.out⟩
  · go_wp2_with fail
    refine (awake18_any _).mono ?_
    rintro e wz ⟨rfl, hbz⟩
    have OZ := Lib.hid (bstep O5.out hbz)
    clear hbz
    go_wp2_with fail
    go_ret
    exact ⟨by first | rfl | simp, OZ.out⟩
end Go.Proofs.Yticehnnbjbliaab.Nd
