/- nodes: the law's to. -/
import Derived.Test.YticehnnbjbliaabNd9
namespace Go.Proofs.Yticehnnbjbliaab.Nd
open Go.RowKit Sl
attribute [local go_sem ↓] Go.wp_at_zero Go.wp_at_succ exec_app
set_option maxRecDepth 100000 in
set_option maxHeartbeats 4000000 in
theorem to_any {w : World} (leaf : Bool) (A : Option Addr) (n c : Nat) (l : List E) (h : Ents w A n l) (hn : n ≤ 1000000) :
    Calls Try.prog 11 #[nodeV leaf A n c] w fun r w' => (∃ A' c', r = .returned (nodeV leaf A' n c') ∧ Slc w' 56 3 (.slice A' n c') n (ents l) ∧ Hid (∀ g ∈ ownB (.slice A' n c'), w.heap.size ≤ g)) ∧ Below w.heap.size w w' := by
  have hl := Lib.hid h.1
  have H0 := Lib.hid h
  have B1 := Lib.hid (((Blk.new w 24 #[.bool leaf, .slice A n c]).alloc (.cells #[.bool false, .slice none 0 0] 32)).alloc (.cells #[.bool leaf, .slice none 0 0] 32))
  have B2 := (Blk.new (w.alloc (.cells #[.bool leaf, .slice A n c] 24)) 32 #[.bool false, .slice none 0 0]).alloc (.cells #[.bool leaf, .slice none 0 0] 32)
  have B3 := Blk.new ((w.alloc (.cells #[.bool leaf, .slice A n c] 24)).alloc (.cells #[.bool false, .slice none 0 0] 32)) 32 #[.bool leaf, .slice none 0 0]
  rw [asz] at B2
  rw [asz, asz] at B3
  replace B2 := Lib.hid B2
  replace B3 := Lib.hid B3
  have O0 := Lib.hid (belowAlloc (belowAlloc (belowAlloc (Below.refl w.heap.size w) (.cells #[.bool leaf, .slice A n c] 24)) (.cells #[.bool false, .slice none 0 0] 32)) (.cells #[.bool leaf, .slice none 0 0] 32))
  clear h
  unfold nodeV
  go_enter Try.func11, Try.ntmps11
  go_wp2_with fail
  generalize hW : (((w.alloc (.cells #[.bool leaf, .slice A n c] 24)).alloc (.cells #[.bool false, .slice none 0 0] 32)).alloc (.cells #[.bool leaf, .slice none 0 0] 32)) = W at *
  clear hW
  go_loopw [4] (fun iv wr => ∃ (i : Nat) (v' : Value), i ≤ n ∧ iv = .int .i64 i ∧ Blk wr w.heap.size 24 #[.bool leaf, .slice A n c] ∧ Blk wr (w.heap.size + 1) 32 #[.bool false, .slice none 0 0] ∧ Blk wr (w.heap.size + 1 + 1) 32 #[.bool leaf, v'] ∧ Slc wr 56 3 v' i (ents (l.take i)) ∧ Below w.heap.size w wr ∧ Hid (∀ x ∈ ownB v', w.heap.size + 3 ≤ x)) (fun iv _ => n - (intOf iv).toNat)
  case atStart => exact ⟨0, _, Nat.zero_le _, rfl, B1.out, B2.out, B3.out, Slc.nil _ _ _, O0.out, Lib.hid (fun x hx => by simp [ownB] at hx)⟩
  case round =>
    obtain ⟨i, v', hi, rfl, C1, C2, C3, S, O, F⟩ := hrel
    obtain ⟨VA, vc, rfl⟩ := slc_val S
    have b1 : wr.cell? ⟨w.heap.size, 1, none⟩ = some (.slice A n c) := C1.cell_some (i := 1) rfl
    have hltr := C3.lt
    by_cases h : i < n
    · obtain ⟨ad, e, rfl, he, AT⟩ := (H0.out.below O).at i h
      have hadb : ad.block < w.heap.size := by
        obtain ⟨ad', e', h1, h2, h3⟩ := H0.out.at i h
        have := cell_lt' h3.c0
        rw [block_of_add] at this
        injection h1 with h1
        rw [h1]; exact this
      obtain ⟨v2, w2, ea, S2, ow, f2⟩ := append_ent (P := Try.prog) (S.drew) 30 30 (.agg #[.string .empty, .string .empty, .int .i64 0]) 40 Try.underlying30 (by kernel_rfl) rfl e (by unfold maxLen; omega) (by omega)
      have HT := Lib.hid (show ents (l.take (i + 1)) = ents (l.take i) ++ e.cells from by rw [List.take_add_one, he]; simp [ents])
      rw [← HT.out] at S2
      obtain ⟨V2, vc2, rfl⟩ := slc_val S2
      have EA := Lib.hid (show appRun Try.prog 30 30 (wr.alloc (.cells #[.string e.key, .string e.val, .int .i64 e.far] 56)).drew (.slice VA i vc) (.slice (some ⟨wr.heap.size, 0, none⟩) 1 1) = .ok (.slice V2 (i + 1) vc2) w2 from ea)
      have hn1 : ∀ g, g < w.heap.size + 2 → g ∉ (w.heap.size + 1 + 1) :: ownB (.slice VA i vc) := fun g hg hx => by
        rcases List.mem_cons.1 hx with rfl | hx
        · omega
        · have := F.out g hx; omega
      have hg3 : w.heap.size + 1 + 1 ∉ ownB (.slice VA i vc) := fun hx => by have := F.out _ hx; omega
      have OD := Lib.hid ((Only.refl ((w.heap.size + 1 + 1) :: ownB (.slice VA i vc)) wr).drew)
      have OA := Lib.hid (OD.out.alloc (.cells #[.string e.key, .string e.val, .int .i64 e.far] 56))
      have OW := Lib.hid (OD.out.trans_of ow (fun x hx _ => List.mem_cons_of_mem _ hx))
      have OX := Lib.hid (OW.out.setCell (p := ⟨w.heap.size + 1 + 1, 1, none⟩) (fun _ => by simp) (.slice V2 (i + 1) vc2))
      have BX1 := Lib.hid (C1.only OX.out (hn1 _ (by omega)))
      have BX2 := Lib.hid (C2.only OX.out (hn1 _ (by omega)))
      have C3W := C3.drew.only ow hg3
      have fz : w2.frozen? ⟨w.heap.size + 1 + 1, 1, none⟩ = false := C3W.frozen 1 (by simp)
      have cz : w2.cell? ⟨w.heap.size + 1 + 1, 1, none⟩ = some (.slice VA i vc) := C3W.cell_some (i := 1) rfl
      have BX3 := Lib.hid (C3W.set_ 1 (.slice V2 (i + 1) vc2))
      have hv2 : ∀ x ∈ ownB (.slice V2 (i + 1) vc2), w.heap.size + 3 ≤ x := fun x hx => (f2 x hx).elim (F.out x) (fun h => by have h : wr.heap.size ≤ x := h; omega)
      have FX := Lib.hid hv2
      have SX := Lib.hid (S2.only ((Only.refl [w.heap.size + 1 + 1] w2).setCell (p := ⟨w.heap.size + 1 + 1, 1, none⟩) (fun _ => by simp) (.slice V2 (i + 1) vc2)) (fun x hx => by have := hv2 x hx; simp; omega))
      have OB := Lib.hid (O.trans (OX.out.below_of O.size (fun x hx => by
        rcases List.mem_cons.1 hx with rfl | hx
        · omega
        · have := F.out x hx; omega)))
      have a0 := AT.c0
      have a1 := AT.c1
      have a2 := AT.c2
      have g3 : wr.cell? ⟨w.heap.size + 1 + 1, 1, none⟩ = some (.slice VA i vc) := C3.cell_some (i := 1) rfl
      have haa : (ad.add (i * 3)).block < wr.heap.size := by rw [block_of_add]; omega
      have han : (ad.add (i * 3)).block ∉ (w.heap.size + 1 + 1) :: ownB (.slice VA i vc) := by rw [block_of_add]; exact hn1 _ (by omega)
      have HK := Lib.hid (show ∀ W', Only ((w.heap.size + 1 + 1) :: ownB (.slice VA i vc)) wr W' → (W'.cell? ⟨w.heap.size, 1, none⟩ = some (.slice (some ad) n c) ∧ W'.cell? (ad.add (i * 3)) = some (.string e.key) ∧ W'.cell? ⟨(ad.add (i * 3)).block, (ad.add (i * 3)).off + 1, none⟩ = some (.string e.val) ∧ W'.cell? ⟨(ad.add (i * 3)).block, (ad.add (i * 3)).off + 2, none⟩ = some (.int .i64 e.far)) from fun W' ho => ⟨(ho.cell (p := ⟨w.heap.size, 1, none⟩) C1.lt (hn1 w.heap.size (by omega))).trans b1, (ho.cell haa han).trans a0, (ho.cell (p := ⟨(ad.add (i * 3)).block, (ad.add (i * 3)).off + 1, none⟩) haa han).trans a1, (ho.cell (p := ⟨(ad.add (i * 3)).block, (ad.add (i * 3)).off + 2, none⟩) haa han).trans a2⟩)
      have g3l : w.heap.size + 1 + 1 < wr.heap.size := hltr
      clear AT S C1 C2 C3 C3W O ea S2 ow f2 hn1 hg3 hv2 he a0 a1 a2 hadb haa han HT
      go_wp2_with fail
      · refine wp_region_held_drew (S := fun w' => w'.cell? ⟨w.heap.size, 1, none⟩ = some (.slice (some ad) n c) ∧ w'.cell? (ad.add (i * 3)) = some (.string e.key) ∧ w'.cell? ⟨(ad.add (i * 3)).block, (ad.add (i * 3)).off + 1, none⟩ = some (.string e.val) ∧ w'.cell? ⟨(ad.add (i * 3)).block, (ad.add (i * 3)).off + 2, none⟩ = some (.int .i64 e.far)) (by kernel_rfl) (HK.out _ OD.out) (fun hHeld => ?_)
        refine wpAnyH_take (i := 0) (oi := ⟨some 15, _, _, _, _, _⟩) (v := ?_) rfl (by kernel_rfl) (by kernel_rfl) (by kernel_rfl) (fun _ _ _ h => h) (Or.inl ⟨by kernel_rfl, ?_⟩) (by assumption) ?_
        rotate_left
        · (intro w hSw; (try dsimp only at hSw); go_simp; (try (with_reducible rfl)))
        try simp only [Act.put, List.setIfInBounds_toArray, List.set_cons_zero, List.set_cons_succ]
        refine wpAnyH_take (i := 2) (oi := ⟨some 17, _, _, _, _, _⟩) (v := ?_) rfl (by kernel_rfl) (by kernel_rfl) (by kernel_rfl) (fun _ _ _ h => h) (Or.inl ⟨by kernel_rfl, ?_⟩) (by assumption) ?_
        rotate_left
        · (intro w hSw; (try dsimp only at hSw); go_simp; (try (with_reducible rfl)))
        try simp only [Act.put, List.setIfInBounds_toArray, List.set_cons_zero, List.set_cons_succ]
        refine wpAnyH_take (i := 3) (oi := ⟨some 18, _, _, _, _, _⟩) (v := ?_) rfl (by kernel_rfl) (by kernel_rfl) (by kernel_rfl) (fun _ _ _ h => h) (Or.inl ⟨by kernel_rfl, ?_⟩) (by assumption) ?_
        rotate_left
        · (intro w hSw; (try dsimp only at hSw); go_simp; (try (with_reducible rfl)))
        try simp only [Act.put, List.setIfInBounds_toArray, List.set_cons_zero, List.set_cons_succ]
        refine wpAnyH_take (i := 4) (oi := ⟨some 19, _, _, _, _, _⟩) (v := ?_) rfl (by kernel_rfl) (by kernel_rfl) (by kernel_rfl) (fun _ _ _ h => h) (Or.inl ⟨by kernel_rfl, ?_⟩) (by assumption) ?_
        rotate_left
        · (intro w hSw; (try dsimp only at hSw); go_simp; (try (with_reducible rfl)))
        try simp only [Act.put, List.setIfInBounds_toArray, List.set_cons_zero, List.set_cons_succ]
        refine wpAnyH_take (i := 5) (oi := ⟨some 20, _, _, _, _, _⟩) (v := ?_) rfl (by kernel_rfl) (by kernel_rfl) (by kernel_rfl) (fun _ _ _ h => h) (Or.inl ⟨by kernel_rfl, ?_⟩) (by assumption) ?_
        rotate_left
        · (intro w hSw; (try dsimp only at hSw); go_simp; (try (with_reducible rfl)))
        try simp only [Act.put, List.setIfInBounds_toArray, List.set_cons_zero, List.set_cons_succ]
        refine wpAnyH_take (i := 6) (oi := ⟨some 21, _, _, _, _, _⟩) (v := ?_) rfl (by kernel_rfl) (by kernel_rfl) (by kernel_rfl) (fun _ _ _ h => h) (Or.inl ⟨by kernel_rfl, ?_⟩) (by assumption) ?_
        rotate_left
        · (intro w hSw; (try dsimp only at hSw); go_simp; (try (with_reducible rfl)))
        try simp only [Act.put, List.setIfInBounds_toArray, List.set_cons_zero, List.set_cons_succ]
        refine wpAnyH_take (i := 7) (oi := ⟨some 22, _, _, _, _, _⟩) (v := ?_) rfl (by kernel_rfl) (by kernel_rfl) (by kernel_rfl) (fun _ _ _ h => h) (Or.inl ⟨by kernel_rfl, ?_⟩) (by assumption) ?_
        rotate_left
        · (intro w hSw; (try dsimp only at hSw); go_simp; (try (with_reducible rfl)))
        try simp only [Act.put, List.setIfInBounds_toArray, List.set_cons_zero, List.set_cons_succ]
        refine wpAnyH_take (i := 8) (oi := ⟨some 23, _, _, _, _, _⟩) (v := ?_) rfl (by kernel_rfl) (by kernel_rfl) (by kernel_rfl) (fun _ _ _ h => h) (Or.inl ⟨by kernel_rfl, ?_⟩) (by assumption) ?_
        rotate_left
        · (intro w hSw; (try dsimp only at hSw); go_simp; (try (with_reducible rfl)))
        try simp only [Act.put, List.setIfInBounds_toArray, List.set_cons_zero, List.set_cons_succ]
        refine wpAnyH_take (i := 9) (oi := ⟨some 24, _, _, _, _, _⟩) (v := ?_) rfl (by kernel_rfl) (by kernel_rfl) (by kernel_rfl) (fun _ _ _ h => h) (Or.inl ⟨by kernel_rfl, ?_⟩) (by assumption) ?_
        rotate_left
        · (intro w hSw; (try dsimp only at hSw); go_simp; (try (with_reducible rfl)))
        try simp only [Act.put, List.setIfInBounds_toArray, List.set_cons_zero, List.set_cons_succ]
        refine wpAnyH_take (i := 10) (oi := ⟨some 25, _, _, _, _, _⟩) (v := ?_) rfl (by kernel_rfl) (by kernel_rfl) (by kernel_rfl) (fun _ _ _ h => h) (Or.inl ⟨by kernel_rfl, ?_⟩) (by assumption) ?_
        rotate_left
        · (intro w hSw; (try dsimp only at hSw); go_simp; (try (with_reducible rfl)))
        try simp only [Act.put, List.setIfInBounds_toArray, List.set_cons_zero, List.set_cons_succ]
        refine wpAnyH_take (i := 11) (oi := ⟨some 26, _, _, _, _, _⟩) (v := ?_) rfl (by kernel_rfl) (by kernel_rfl) (by kernel_rfl) (fun _ _ _ h => h) (Or.inl ⟨by kernel_rfl, ?_⟩) (by assumption) ?_
        rotate_left
        · (intro w hSw; (try dsimp only at hSw); go_simp; (try (with_reducible rfl)))
        try simp only [Act.put, List.setIfInBounds_toArray, List.set_cons_zero, List.set_cons_succ]
        refine wpAnyH_take (i := 12) (oi := ⟨some 27, _, _, _, _, _⟩) (v := ?_) rfl (by kernel_rfl) (by kernel_rfl) (by kernel_rfl) (fun _ _ _ h => h) (Or.inl ⟨by kernel_rfl, ?_⟩) (by assumption) ?_
        rotate_left
        · (intro w hSw; (try dsimp only at hSw); go_simp; (try (with_reducible rfl)))
        try simp only [Act.put, List.setIfInBounds_toArray, List.set_cons_zero, List.set_cons_succ]
        refine wpAnyH_take (i := 13) (oi := ⟨some 28, _, _, _, _, _⟩) (v := ?_) rfl (by kernel_rfl) (by kernel_rfl) (by kernel_rfl) (fun _ _ _ h => h) (Or.inl ⟨by kernel_rfl, ?_⟩) (by assumption) ?_
        rotate_left
        · (intro w hSw; (try dsimp only at hSw); go_simp; (try (with_reducible rfl)))
        try simp only [Act.put, List.setIfInBounds_toArray, List.set_cons_zero, List.set_cons_succ]
        refine wpAnyH_take (i := 14) (oi := ⟨some 29, _, _, _, _, _⟩) (v := ?_) rfl (by kernel_rfl) (by kernel_rfl) (by kernel_rfl) (fun _ _ _ h => h) (Or.inl ⟨by kernel_rfl, ?_⟩) (by assumption) ?_
        rotate_left
        · (intro w hSw; (try dsimp only at hSw); go_simp; (try (with_reducible rfl)))
        try simp only [Act.put, List.setIfInBounds_toArray, List.set_cons_zero, List.set_cons_succ]
        refine wpAnyH_take (i := 15) (oi := ⟨some 30, _, _, _, _, _⟩) (v := ?_) rfl (by kernel_rfl) (by kernel_rfl) (by kernel_rfl) (fun _ _ _ h => h) (Or.inl ⟨by kernel_rfl, ?_⟩) (by assumption) ?_
        rotate_left
        · (intro w hSw; (try dsimp only at hSw); go_simp; (try (with_reducible rfl)))
        try simp only [Act.put, List.setIfInBounds_toArray, List.set_cons_zero, List.set_cons_succ]
        refine wpAnyH_take (i := 16) (oi := ⟨some 31, _, _, _, _, _⟩) (v := ?_) rfl (by kernel_rfl) (by kernel_rfl) (by kernel_rfl) (fun _ _ _ h => h) (Or.inl ⟨by kernel_rfl, ?_⟩) (by assumption) ?_
        rotate_left
        · (intro w hSw; (try dsimp only at hSw); go_simp; (try (with_reducible rfl)))
        try simp only [Act.put, List.setIfInBounds_toArray, List.set_cons_zero, List.set_cons_succ]
        refine wpAnyH_take (i := 17) (oi := ⟨some 32, _, _, _, _, _⟩) (v := ?_) rfl (by kernel_rfl) (by kernel_rfl) (by kernel_rfl) (fun _ _ _ h => h) (Or.inl ⟨by kernel_rfl, ?_⟩) (by assumption) ?_
        rotate_left
        · (intro w hSw; (try dsimp only at hSw); go_simp; (try (with_reducible rfl)))
        try simp only [Act.put, List.setIfInBounds_toArray, List.set_cons_zero, List.set_cons_succ]
        refine wpAnyH_take (i := 18) (oi := ⟨some 33, _, _, _, _, _⟩) (v := ?_) rfl (by kernel_rfl) (by kernel_rfl) (by kernel_rfl) (fun _ _ _ h => h) (Or.inl ⟨by kernel_rfl, ?_⟩) (by assumption) ?_
        rotate_left
        · (intro w hSw; (try dsimp only at hSw); go_simp; (try (with_reducible rfl)))
        try simp only [Act.put, List.setIfInBounds_toArray, List.set_cons_zero, List.set_cons_succ]
        refine wpAnyH_take (i := 19) (oi := ⟨some 34, _, _, _, _, _⟩) (v := ?_) rfl (by kernel_rfl) (by kernel_rfl) (by kernel_rfl) (fun _ _ _ h => h) (Or.inl ⟨by kernel_rfl, ?_⟩) (by assumption) ?_
        rotate_left
        · (intro w hSw; (try dsimp only at hSw); go_simp; (try (with_reducible rfl)))
        try simp only [Act.put, List.setIfInBounds_toArray, List.set_cons_zero, List.set_cons_succ]
        refine wpAnyH_take (i := 20) (oi := ⟨some 35, _, _, _, _, _⟩) (v := ?_) rfl (by kernel_rfl) (by kernel_rfl) (by kernel_rfl) (fun _ _ _ h => h) (Or.inl ⟨by kernel_rfl, ?_⟩) (by assumption) ?_
        rotate_left
        · (intro w hSw; (try dsimp only at hSw); go_simp; (try (with_reducible rfl)))
        try simp only [Act.put, List.setIfInBounds_toArray, List.set_cons_zero, List.set_cons_succ]
        refine wpAnyH_ready (rs := [1, 21]) (by kernel_rfl) (by simp) ?_
        refine AllReadyH.cons (o := ⟨some 16, _, _, _, _, _⟩) rfl (fun K hK => ?_) (AllReadyH.cons (o := ⟨some 36, _, _, _, _, _⟩) rfl (fun K hK => ?_) AllReadyH.nil)
        · go_simp
          refine hK.out _ _ (hHeld) (fun hHeld => ?_)
          try simp only [Act.put, List.setIfInBounds_toArray, List.set_cons_zero, List.set_cons_succ]
          refine wpAnyH_ready (rs := [21]) (by kernel_rfl) (by simp) ?_
          refine AllReadyH.cons (o := ⟨some 36, _, _, _, _, _⟩) rfl (fun K hK => ?_) AllReadyH.nil
          go_simp
          refine hK.out _ _ (HK.out _ OA.out) (fun hHeld => ?_)
          try simp only [Act.put, List.setIfInBounds_toArray, List.set_cons_zero, List.set_cons_succ]
          refine wpAnyH_ready (rs := [22]) (by kernel_rfl) (by simp) ?_
          refine AllReadyH.cons (o := ⟨some 37, _, _, _, _, _⟩) rfl (fun K hK => ?_) AllReadyH.nil
          go_simp
          rw [EA.out]
          go_simp
          refine hK.out _ _ (HK.out _ OW.out) (fun hHeld => ?_)
          try simp only [Act.put, List.setIfInBounds_toArray, List.set_cons_zero, List.set_cons_succ]
          refine wpAnyH_take (i := 23) (oi := ⟨some 38, _, _, _, _, _⟩) (v := ?_) rfl (by kernel_rfl) (by kernel_rfl) (by kernel_rfl) (fun _ _ _ h => h) (Or.inl ⟨by kernel_rfl, ?_⟩) (by assumption) ?_
          rotate_left
          · (intro w hSw; (try dsimp only at hSw); go_simp; (try (with_reducible rfl)))
          try simp only [Act.put, List.setIfInBounds_toArray, List.set_cons_zero, List.set_cons_succ]
          refine wpAnyH_ready (rs := [24]) (by kernel_rfl) (by simp) ?_
          refine AllReadyH.cons (o := ⟨none, _, _, _, _, _⟩) rfl (fun K hK => ?_) AllReadyH.nil
          go_simp
          refine hK.out _ _ (HK.out _ OX.out) (fun hHeld => ?_)
          try simp only [Act.put, List.setIfInBounds_toArray, List.set_cons_zero, List.set_cons_succ]
          refine wpAnyH_done (by kernel_rfl) ?_ _
          go_wp2_with fail
          go_roundw
          case rel => exact ⟨i + 1, _, by omega, by go_num, BX1.out, BX2.out, BX3.out, SX.out, OB.out, FX⟩
          case measure => simp [intOf]; omega
        · go_simp
          refine hK.out _ _ (HK.out _ OA.out) (fun hHeld => ?_)
          try simp only [Act.put, List.setIfInBounds_toArray, List.set_cons_zero, List.set_cons_succ]
          refine wpAnyH_ready (rs := [1]) (by kernel_rfl) (by simp) ?_
          refine AllReadyH.cons (o := ⟨some 16, _, _, _, _, _⟩) rfl (fun K hK => ?_) AllReadyH.nil
          go_simp
          refine hK.out _ _ (hHeld) (fun hHeld => ?_)
          try simp only [Act.put, List.setIfInBounds_toArray, List.set_cons_zero, List.set_cons_succ]
          refine wpAnyH_ready (rs := [22]) (by kernel_rfl) (by simp) ?_
          refine AllReadyH.cons (o := ⟨some 37, _, _, _, _, _⟩) rfl (fun K hK => ?_) AllReadyH.nil
          go_simp
          rw [EA.out]
          go_simp
          refine hK.out _ _ (HK.out _ OW.out) (fun hHeld => ?_)
          try simp only [Act.put, List.setIfInBounds_toArray, List.set_cons_zero, List.set_cons_succ]
          refine wpAnyH_take (i := 23) (oi := ⟨some 38, _, _, _, _, _⟩) (v := ?_) rfl (by kernel_rfl) (by kernel_rfl) (by kernel_rfl) (fun _ _ _ h => h) (Or.inl ⟨by kernel_rfl, ?_⟩) (by assumption) ?_
          rotate_left
          · (intro w hSw; (try dsimp only at hSw); go_simp; (try (with_reducible rfl)))
          try simp only [Act.put, List.setIfInBounds_toArray, List.set_cons_zero, List.set_cons_succ]
          refine wpAnyH_ready (rs := [24]) (by kernel_rfl) (by simp) ?_
          refine AllReadyH.cons (o := ⟨none, _, _, _, _, _⟩) rfl (fun K hK => ?_) AllReadyH.nil
          go_simp
          refine hK.out _ _ (HK.out _ OX.out) (fun hHeld => ?_)
          try simp only [Act.put, List.setIfInBounds_toArray, List.set_cons_zero, List.set_cons_succ]
          refine wpAnyH_done (by kernel_rfl) ?_ _
          go_wp2_with fail
          go_roundw
          case rel => exact ⟨i + 1, _, by omega, by go_num, BX1.out, BX2.out, BX3.out, SX.out, OB.out, FX⟩
          case measure => simp [intOf]; omega
    · obtain rfl : i = n := by omega
      have hln := hl.out
      rw [List.take_of_length_le (by omega)] at S
      have g3 : wr.cell? ⟨w.heap.size + 1 + 1, 1, none⟩ = some (.slice VA i vc) := C3.cell_some (i := 1) rfl
      have g3a : wr.cell? ⟨w.heap.size + 1 + 1, 0, none⟩ = some (.bool leaf) := C3.cell_some (i := 0) rfl
      have g2a : wr.cell? ⟨w.heap.size + 1, 0, none⟩ = some (.bool false) := C2.cell_some (i := 0) rfl
      have g2b : wr.cell? ⟨w.heap.size + 1, 1, none⟩ = some (.slice none 0 0) := C2.cell_some (i := 1) rfl
      have g2f : wr.frozen? ⟨w.heap.size + 1, 0, none⟩ = false := C2.frozen 0 (by simp)
      have g2g : wr.frozen? ⟨w.heap.size + 1, 1, none⟩ = false := C2.frozen 1 (by simp)
      have CC := Lib.hid ((C2.set_ 0 (.bool leaf)).set_ 1 (.slice VA i vc))
      have OO := Lib.hid ((Only.of_below (S := []) O).setCell (p := ⟨w.heap.size + 1, 0, none⟩) (fun h => absurd h (by simp)) (.bool leaf))
      have OP := Lib.hid ((OO.out.setCell (p := ⟨w.heap.size + 1, 1, none⟩) (fun h => absurd h (by simp)) (.slice VA i vc)).below_nil)
      have SS := Lib.hid (S.only (((Only.refl [w.heap.size + 1] wr).setCell (p := ⟨w.heap.size + 1, 0, none⟩) (fun _ => by simp) (.bool leaf)).setCell (p := ⟨w.heap.size + 1, 1, none⟩) (fun _ => by simp) (.slice VA i vc)) (fun x hx => by have := F.out x hx; simp; omega))
      clear C1 C2 C3 S O hln
      go_wp2_with fail
      exact bodyPost_ret (ret_node rfl rfl CC.out) rfl ⟨⟨_, _, rfl, SS.out, Lib.hid (fun x hx => by have := F.out x hx; omega)⟩, OP.out⟩
end Go.Proofs.Yticehnnbjbliaab.Nd
