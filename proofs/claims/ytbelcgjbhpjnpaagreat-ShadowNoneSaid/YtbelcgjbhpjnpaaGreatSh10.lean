/- pool by its contracts: New. -/
import Derived.Test.YtbelcgjbhpjnpaaGreatSh9
namespace Go.Proofs.YtbelcgjbhpjnpaaGreat.Sh
open Go.RowKit Pk Dk Pg
attribute [local go_sem ↓] Go.wp_at_zero Go.wp_at_succ exec_app
theorem info_frame : (Tryz.prog.info? 150).map (fun i => (i.zero, i.size, i.bytes)) = some (some (.agg #[.int .i64 0, .string ⟨#[]⟩, .int .i64 0, .bool false, .bool false]), 5, 40) := by kernel_rfl
theorem frc_append (l k : List Fr) : frc (l ++ k) = frc l ++ frc k := by simp [frc]
theorem slc_ne {w : World} {e t : TypeId} {k : Nat} {v : Value} {n b : Nat} {l : List Value} {cs : Array Value} (h : Slc w e k v n l) (B : Blk w b t cs) (hne : t ≠ e) : b ∉ ownB v := by
  rcases h.2 with ⟨rfl, _⟩ | ⟨g, cap, rest, rfl, BB, _⟩
  · simp [ownB]
  · simp only [ownB, List.mem_singleton]
    exact B.ne_ BB hne
theorem bstep2 {w a b c : World} {v : Value} (h : Below w.heap.size w a) (k : Below a.heap.size a b) (o : Only (ownB v) b c) (hf : ∀ g ∈ ownB v, w.heap.size ≤ g) : Below w.heap.size w c :=
  (bstep h k).trans (o.below_of (Nat.le_trans h.size k.size) hf)
theorem append_nil {w : World} {v : Value} {n : Nat} {l : List Fr} (h : Slc w 150 5 v n (frc l)) (hn : n ≤ 1000) :
    ∃ v' w', appRun Tryz.prog 146 146 (w.alloc (.cells #[.int .i64 (-1), .string ⟨#[]⟩, .int .i64 0, .bool false, .bool false] 150)) v (.slice (some ⟨w.heap.size, 0, none⟩) 1 1) = .ok v' w' ∧ Slc w' 150 5 v' (n + 1) (frc (l ++ [Fr.nil])) ∧ Only (ownB v) w w' ∧ (∀ g ∈ ownB v', g ∈ ownB v ∨ w.heap.size ≤ g) := by
  obtain ⟨i0, hi, hz0, hz1, hz2⟩ := info_parts info_frame
  obtain ⟨v', w', h1, h2, h3, h4⟩ := append_slc (P := Tryz.prog) (h.alloc (.cells #[.int .i64 (-1), .string ⟨#[]⟩, .int .i64 0, .bool false, .bool false] 150)) 146 146 i0 _ 40 Tryz.underlying146 hi hz0 hz1 hz2 rfl (by omega)
    ⟨w.heap.size, 0, none⟩ 1 1 Fr.nil.cs rfl (cells_at (l := Fr.nil.cs) (Blk.new w _ #[.int .i64 (-1), .string ⟨#[]⟩, .int .i64 0, .bool false, .bool false]) 0 _ (by intro j u hu; rw [Nat.zero_add]; exact hu)) (by intro u hu; simp [Fr.cs, Fr.nil] at hu; rcases hu with rfl | rfl | rfl | rfl <;> rfl) (by unfold maxLen; omega) (by omega)
  refine ⟨v', w', h1, ?_, ((Only.refl _ _).alloc _).trans_of h3 (fun x hx _ => hx), fun g hg => (h4 g hg).imp id (fun h => by simp at h; omega)⟩
  rw [frc_append]
  exact h2
set_option maxRecDepth 100000 in
set_option maxHeartbeats 2000000 in
theorem pnew_any {w : World} (b k : Nat) (h1 : 1 ≤ k) (h2 : k ≤ 32) :
    Calls Tryz.prog 54 #[sp b, .int .i64 (k : Nat)] w fun e w' => ∃ pb v, e = .returned (.tuple #[.pointer (some ⟨pb, 0, none⟩), .int .i64 0]) ∧ Blk w' pb 148 #[sp b, v, .int .i64 0] ∧ Slc w' 150 5 v k (frc (List.replicate k Fr.nil)) ∧ Below w.heap.size w w' ∧ w.heap.size ≤ pb ∧ ∀ g ∈ ownB v, w.heap.size ≤ g := by
  have KE := Lib.hid empty_any
  have O0 := Lib.hid (belowAlloc (Below.refl w.heap.size w) (.cells #[sp b, .slice none 0 0, .int .i64 0] 148))
  have B0 := Lib.hid (Blk.new w 148 #[sp b, .slice none 0 0, .int .i64 0])
  have k1 : ¬ (k : Int) < 1 := by omega
  have k2 : ¬ (32 : Int) < (k : Int) := by omega
  unfold sp at *
  go_enter Tryz.func54, Tryz.ntmps54
  go_wp2_with fail
  generalize hwa : w.alloc (.cells #[.pointer (some ⟨b, 0, none⟩), .slice none 0 0, .int .i64 0] 148) = wa at *
  clear hwa
  go_loopw [21] (fun iv wr => ∃ i : Nat, i ≤ k ∧ iv = .int .i64 i ∧ ∃ v, Hid (Blk wr w.heap.size 148 #[.pointer (some ⟨b, 0, none⟩), v, .int .i64 0]) ∧ Hid (Slc wr 150 5 v i (frc (List.replicate i Fr.nil))) ∧ Hid (Below w.heap.size w wr) ∧ Hid (∀ g ∈ ownB v, w.heap.size ≤ g)) (fun iv _ => k - (intOf iv).toNat)
  case atStart => exact ⟨0, Nat.zero_le _, rfl, .slice none 0 0, B0, Lib.hid (Slc.nil _ _ _), O0, Lib.hid (by simp [ownB])⟩
  case round =>
    obtain ⟨i, hi, rfl, v, BP, SP, OB, FR⟩ := hrel
    by_cases h : i < k
    · obtain ⟨A, cc, rfl⟩ := slc_val SP.out
      have hI : (i : Int) < (k : Int) := by omega
      have OD := Lib.hid (show Below wr.heap.size wr wr.drew from (Below.refl _ _).drew)
      have c0 := BP.out.cell_some (i := 1) rfl
      have NB := Lib.hid (show w.heap.size ∉ ownB (.slice A i cc) from slc_ne SP.out BP.out (by decide))
      go_wp2_with fail
      refine wp_region_held_drew (S := fun _ => True) (by kernel_rfl) (trivial) (fun hHeld => ?_)
      refine wpAnyH_take (i := 0) (oi := ⟨some 23, _, _, _, _, _⟩) (v := ?_) rfl (by kernel_rfl) (by kernel_rfl) (by kernel_rfl) (fun _ _ _ h => h) (Or.inl ⟨by kernel_rfl, ?_⟩) (by assumption) ?_
      rotate_left
      · (intro w hSw; (try dsimp only at hSw); go_simp; (try (with_reducible rfl)))
      try simp only [Act.put, List.setIfInBounds_toArray, List.set_cons_zero, List.set_cons_succ]
      refine wpAnyH_take (i := 1) (oi := ⟨some 24, _, _, _, _, _⟩) (v := ?_) rfl (by kernel_rfl) (by kernel_rfl) (by kernel_rfl) (fun _ _ _ h => h) (Or.inl ⟨by kernel_rfl, ?_⟩) (by assumption) ?_
      rotate_left
      · (intro w hSw; (try dsimp only at hSw); go_simp; (try (with_reducible rfl)))
      try simp only [Act.put, List.setIfInBounds_toArray, List.set_cons_zero, List.set_cons_succ]
      refine wpAnyH_take (i := 2) (oi := ⟨some 25, _, _, _, _, _⟩) (v := ?_) rfl (by kernel_rfl) (by kernel_rfl) (by kernel_rfl) (fun _ _ _ h => h) (Or.inl ⟨by kernel_rfl, ?_⟩) (by assumption) ?_
      rotate_left
      · (intro w hSw; (try dsimp only at hSw); go_simp; (try (with_reducible rfl)))
      try simp only [Act.put, List.setIfInBounds_toArray, List.set_cons_zero, List.set_cons_succ]
      refine wpAnyH_take (i := 3) (oi := ⟨some 26, _, _, _, _, _⟩) (v := ?_) rfl (by kernel_rfl) (by kernel_rfl) (by kernel_rfl) (fun _ _ _ h => h) (Or.inl ⟨by kernel_rfl, ?_⟩) (by assumption) ?_
      rotate_left
      · (intro w hSw; (try dsimp only at hSw); go_simp; (try (with_reducible rfl)))
      try simp only [Act.put, List.setIfInBounds_toArray, List.set_cons_zero, List.set_cons_succ]
      refine wpAnyH_ready (rs := [4, 5]) (by kernel_rfl) (by simp) ?_
      refine AllReadyH.cons (o := ⟨some 27, _, _, _, _, _⟩) rfl (fun K hK => ?_) (AllReadyH.cons (o := ⟨some 28, _, _, _, _, _⟩) rfl (fun K hK => ?_) AllReadyH.nil)
      · skip
        go_simp
        refine hK.out _ _ (trivial) (fun hHeld => ?_)
        try simp only [Act.put, List.setIfInBounds_toArray, List.set_cons_zero, List.set_cons_succ]
        refine wpAnyH_ready (rs := [5]) (by kernel_rfl) (by simp) ?_
        refine AllReadyH.cons (o := ⟨some 28, _, _, _, _, _⟩) rfl (fun K hK => ?_) AllReadyH.nil
        go_simp
        go_at_call 126
        refine (KE.out _).mono ?_
        rintro e v1 ⟨rfl, hv1⟩
        have P1 := Lib.hid (bstep OD.out hv1)
        have BP1 := Lib.hid (BP.out.below P1.out BP.out.lt)
        have SP1 := Lib.hid (SP.out.below P1.out)
        have cl := BP1.out.cell_some (i := 1) rfl
        clear hv1
        unfold Fr.nil Fr.agg
        go_simp
        refine hK.out _ _ (trivial) (fun hHeld => ?_)
        try simp only [Act.put, List.setIfInBounds_toArray, List.set_cons_zero, List.set_cons_succ]
        refine wpAnyH_ready (rs := [6]) (by kernel_rfl) (by simp) ?_
        refine AllReadyH.cons (o := ⟨some 29, _, _, _, _, _⟩) rfl (fun K hK => ?_) AllReadyH.nil
        go_simp
        obtain ⟨v2, w2, ea, S2, ow2, fr2⟩ := append_nil SP1.out (by omega)
        obtain ⟨A2, cc2, rfl⟩ := slc_val S2
        have EA := Lib.hid ea
        have SP2 := Lib.hid S2
        have OW2 := Lib.hid ow2
        have FR2 := Lib.hid fr2
        have BP2 := Lib.hid (BP1.out.only OW2.out NB.out)
        clear ea S2 ow2 fr2 cl
        refine hK.out _ _ (trivial) (fun hHeld => ?_)
        try simp only [Act.put, List.setIfInBounds_toArray, List.set_cons_zero, List.set_cons_succ]
        refine wpAnyH_ready (rs := [7]) (by kernel_rfl) (by simp) ?_
        refine AllReadyH.cons (o := ⟨some 30, _, _, _, _, _⟩) rfl (fun K hK => ?_) AllReadyH.nil
        go_simp
        rw [EA.out]
        go_simp
        refine hK.out _ _ (trivial) (fun hHeld => ?_)
        try simp only [Act.put, List.setIfInBounds_toArray, List.set_cons_zero, List.set_cons_succ]
        refine wpAnyH_take (i := 8) (oi := ⟨some 31, _, _, _, _, _⟩) (v := ?_) rfl (by kernel_rfl) (by kernel_rfl) (by kernel_rfl) (fun _ _ _ h => h) (Or.inl ⟨by kernel_rfl, ?_⟩) (by assumption) ?_
        rotate_left
        · (intro w hSw; (try dsimp only at hSw); go_simp; (try (with_reducible rfl)))
        try simp only [Act.put, List.setIfInBounds_toArray, List.set_cons_zero, List.set_cons_succ]
        refine wpAnyH_take (i := 9) (oi := ⟨some 32, _, _, _, _, _⟩) (v := ?_) rfl (by kernel_rfl) (by kernel_rfl) (by kernel_rfl) (fun _ _ _ h => h) (Or.inl ⟨by kernel_rfl, ?_⟩) (by assumption) ?_
        rotate_left
        · (intro w hSw; (try dsimp only at hSw); go_simp; (try (with_reducible rfl)))
        try simp only [Act.put, List.setIfInBounds_toArray, List.set_cons_zero, List.set_cons_succ]
        refine wpAnyH_ready (rs := [10]) (by kernel_rfl) (by simp) ?_
        refine AllReadyH.cons (o := ⟨none, _, _, _, _, _⟩) rfl (fun K hK => ?_) AllReadyH.nil
        go_simp
        have q0 := BP2.out.cell_some (i := 1) rfl
        have q1 := BP2.out.frozen 1 (by simp)
        go_simp
        refine hK.out _ _ (trivial) (fun hHeld => ?_)
        try simp only [Act.put, List.setIfInBounds_toArray, List.set_cons_zero, List.set_cons_succ]
        refine wpAnyH_done (by kernel_rfl) ?_ _
        have BP3 := BP2.out.set_ 1 (.slice A2 (i + 1) cc2)
        have SP3 := SP2.out.only ((Only.refl [w.heap.size] w2).setCell (p := ⟨w.heap.size, 1, none⟩) (by simp) (.slice A2 (i + 1) cc2)) (fun g hg hm => by simp at hm; subst hm; exact slc_ne SP2.out BP2.out (by decide) hg)
        have O3 := Below.setCell (bstep2 OB.out P1.out OW2.out FR.out) (p := ⟨w.heap.size, 1, none⟩) (Nat.le_refl _) (.slice A2 (i + 1) cc2)
        have hfr : ∀ g ∈ ownB (.slice A2 (i + 1) cc2), w.heap.size ≤ g := fun g hg => (FR2.out g hg).elim (FR.out g) (fun h => by have := OB.out.size; have := P1.out.size; omega)
        have BP4 := Lib.hid BP3
        have SP4 := Lib.hid SP3
        have O4 := Lib.hid O3
        have HFR := Lib.hid hfr
        clear BP3 SP3 O3 hfr q0 q1
        go_wp2_with fail
        go_roundw
        case rel =>
          refine ⟨i + 1, by omega, by go_num, .slice A2 (i + 1) cc2, BP4, ?_, O4, HFR⟩
          rw [show List.replicate (i + 1) Fr.nil = List.replicate i Fr.nil ++ [Fr.nil] from List.replicate_succ']
          exact SP4
        case measure => simp [intOf]; omega
      · skip
        go_simp
        go_at_call 126
        refine (KE.out _).mono ?_
        rintro e v1 ⟨rfl, hv1⟩
        have P1 := Lib.hid (bstep OD.out hv1)
        have BP1 := Lib.hid (BP.out.below P1.out BP.out.lt)
        have SP1 := Lib.hid (SP.out.below P1.out)
        have cl := BP1.out.cell_some (i := 1) rfl
        clear hv1
        unfold Fr.nil Fr.agg
        go_simp
        refine hK.out _ _ (trivial) (fun hHeld => ?_)
        try simp only [Act.put, List.setIfInBounds_toArray, List.set_cons_zero, List.set_cons_succ]
        refine wpAnyH_ready (rs := [4, 6]) (by kernel_rfl) (by simp) ?_
        refine AllReadyH.cons (o := ⟨some 27, _, _, _, _, _⟩) rfl (fun K hK => ?_) (AllReadyH.cons (o := ⟨some 29, _, _, _, _, _⟩) rfl (fun K hK => ?_) AllReadyH.nil)
        · skip
          go_simp
          refine hK.out _ _ (trivial) (fun hHeld => ?_)
          try simp only [Act.put, List.setIfInBounds_toArray, List.set_cons_zero, List.set_cons_succ]
          refine wpAnyH_ready (rs := [6]) (by kernel_rfl) (by simp) ?_
          refine AllReadyH.cons (o := ⟨some 29, _, _, _, _, _⟩) rfl (fun K hK => ?_) AllReadyH.nil
          go_simp
          obtain ⟨v2, w2, ea, S2, ow2, fr2⟩ := append_nil SP1.out (by omega)
          obtain ⟨A2, cc2, rfl⟩ := slc_val S2
          have EA := Lib.hid ea
          have SP2 := Lib.hid S2
          have OW2 := Lib.hid ow2
          have FR2 := Lib.hid fr2
          have BP2 := Lib.hid (BP1.out.only OW2.out NB.out)
          clear ea S2 ow2 fr2 cl
          refine hK.out _ _ (trivial) (fun hHeld => ?_)
          try simp only [Act.put, List.setIfInBounds_toArray, List.set_cons_zero, List.set_cons_succ]
          refine wpAnyH_ready (rs := [7]) (by kernel_rfl) (by simp) ?_
          refine AllReadyH.cons (o := ⟨some 30, _, _, _, _, _⟩) rfl (fun K hK => ?_) AllReadyH.nil
          go_simp
          rw [EA.out]
          go_simp
          refine hK.out _ _ (trivial) (fun hHeld => ?_)
          try simp only [Act.put, List.setIfInBounds_toArray, List.set_cons_zero, List.set_cons_succ]
          refine wpAnyH_take (i := 8) (oi := ⟨some 31, _, _, _, _, _⟩) (v := ?_) rfl (by kernel_rfl) (by kernel_rfl) (by kernel_rfl) (fun _ _ _ h => h) (Or.inl ⟨by kernel_rfl, ?_⟩) (by assumption) ?_
          rotate_left
          · (intro w hSw; (try dsimp only at hSw); go_simp; (try (with_reducible rfl)))
          try simp only [Act.put, List.setIfInBounds_toArray, List.set_cons_zero, List.set_cons_succ]
          refine wpAnyH_take (i := 9) (oi := ⟨some 32, _, _, _, _, _⟩) (v := ?_) rfl (by kernel_rfl) (by kernel_rfl) (by kernel_rfl) (fun _ _ _ h => h) (Or.inl ⟨by kernel_rfl, ?_⟩) (by assumption) ?_
          rotate_left
          · (intro w hSw; (try dsimp only at hSw); go_simp; (try (with_reducible rfl)))
          try simp only [Act.put, List.setIfInBounds_toArray, List.set_cons_zero, List.set_cons_succ]
          refine wpAnyH_ready (rs := [10]) (by kernel_rfl) (by simp) ?_
          refine AllReadyH.cons (o := ⟨none, _, _, _, _, _⟩) rfl (fun K hK => ?_) AllReadyH.nil
          go_simp
          have q0 := BP2.out.cell_some (i := 1) rfl
          have q1 := BP2.out.frozen 1 (by simp)
          go_simp
          refine hK.out _ _ (trivial) (fun hHeld => ?_)
          try simp only [Act.put, List.setIfInBounds_toArray, List.set_cons_zero, List.set_cons_succ]
          refine wpAnyH_done (by kernel_rfl) ?_ _
          have BP3 := BP2.out.set_ 1 (.slice A2 (i + 1) cc2)
          have SP3 := SP2.out.only ((Only.refl [w.heap.size] w2).setCell (p := ⟨w.heap.size, 1, none⟩) (by simp) (.slice A2 (i + 1) cc2)) (fun g hg hm => by simp at hm; subst hm; exact slc_ne SP2.out BP2.out (by decide) hg)
          have O3 := Below.setCell (bstep2 OB.out P1.out OW2.out FR.out) (p := ⟨w.heap.size, 1, none⟩) (Nat.le_refl _) (.slice A2 (i + 1) cc2)
          have hfr : ∀ g ∈ ownB (.slice A2 (i + 1) cc2), w.heap.size ≤ g := fun g hg => (FR2.out g hg).elim (FR.out g) (fun h => by have := OB.out.size; have := P1.out.size; omega)
          have BP4 := Lib.hid BP3
          have SP4 := Lib.hid SP3
          have O4 := Lib.hid O3
          have HFR := Lib.hid hfr
          clear BP3 SP3 O3 hfr q0 q1
          go_wp2_with fail
          go_roundw
          case rel =>
            refine ⟨i + 1, by omega, by go_num, .slice A2 (i + 1) cc2, BP4, ?_, O4, HFR⟩
            rw [show List.replicate (i + 1) Fr.nil = List.replicate i Fr.nil ++ [Fr.nil] from List.replicate_succ']
            exact SP4
          case measure => simp [intOf]; omega
        · skip
          go_simp
          obtain ⟨v2, w2, ea, S2, ow2, fr2⟩ := append_nil SP1.out (by omega)
          obtain ⟨A2, cc2, rfl⟩ := slc_val S2
          have EA := Lib.hid ea
          have SP2 := Lib.hid S2
          have OW2 := Lib.hid ow2
          have FR2 := Lib.hid fr2
          have BP2 := Lib.hid (BP1.out.only OW2.out NB.out)
          clear ea S2 ow2 fr2 cl
          have cl := (BP1.out.alloc (.cells #[.int .i64 (-1), .string ⟨#[]⟩, .int .i64 0, .bool false, .bool false] 150)).cell_some (i := 1) rfl
          refine hK.out _ _ (trivial) (fun hHeld => ?_)
          try simp only [Act.put, List.setIfInBounds_toArray, List.set_cons_zero, List.set_cons_succ]
          refine wpAnyH_ready (rs := [4]) (by kernel_rfl) (by simp) ?_
          refine AllReadyH.cons (o := ⟨some 27, _, _, _, _, _⟩) rfl (fun K hK => ?_) AllReadyH.nil
          go_simp
          refine hK.out _ _ (trivial) (fun hHeld => ?_)
          try simp only [Act.put, List.setIfInBounds_toArray, List.set_cons_zero, List.set_cons_succ]
          refine wpAnyH_ready (rs := [7]) (by kernel_rfl) (by simp) ?_
          refine AllReadyH.cons (o := ⟨some 30, _, _, _, _, _⟩) rfl (fun K hK => ?_) AllReadyH.nil
          go_simp
          rw [EA.out]
          go_simp
          refine hK.out _ _ (trivial) (fun hHeld => ?_)
          try simp only [Act.put, List.setIfInBounds_toArray, List.set_cons_zero, List.set_cons_succ]
          refine wpAnyH_take (i := 8) (oi := ⟨some 31, _, _, _, _, _⟩) (v := ?_) rfl (by kernel_rfl) (by kernel_rfl) (by kernel_rfl) (fun _ _ _ h => h) (Or.inl ⟨by kernel_rfl, ?_⟩) (by assumption) ?_
          rotate_left
          · (intro w hSw; (try dsimp only at hSw); go_simp; (try (with_reducible rfl)))
          try simp only [Act.put, List.setIfInBounds_toArray, List.set_cons_zero, List.set_cons_succ]
          refine wpAnyH_take (i := 9) (oi := ⟨some 32, _, _, _, _, _⟩) (v := ?_) rfl (by kernel_rfl) (by kernel_rfl) (by kernel_rfl) (fun _ _ _ h => h) (Or.inl ⟨by kernel_rfl, ?_⟩) (by assumption) ?_
          rotate_left
          · (intro w hSw; (try dsimp only at hSw); go_simp; (try (with_reducible rfl)))
          try simp only [Act.put, List.setIfInBounds_toArray, List.set_cons_zero, List.set_cons_succ]
          refine wpAnyH_ready (rs := [10]) (by kernel_rfl) (by simp) ?_
          refine AllReadyH.cons (o := ⟨none, _, _, _, _, _⟩) rfl (fun K hK => ?_) AllReadyH.nil
          go_simp
          have q0 := BP2.out.cell_some (i := 1) rfl
          have q1 := BP2.out.frozen 1 (by simp)
          go_simp
          refine hK.out _ _ (trivial) (fun hHeld => ?_)
          try simp only [Act.put, List.setIfInBounds_toArray, List.set_cons_zero, List.set_cons_succ]
          refine wpAnyH_done (by kernel_rfl) ?_ _
          have BP3 := BP2.out.set_ 1 (.slice A2 (i + 1) cc2)
          have SP3 := SP2.out.only ((Only.refl [w.heap.size] w2).setCell (p := ⟨w.heap.size, 1, none⟩) (by simp) (.slice A2 (i + 1) cc2)) (fun g hg hm => by simp at hm; subst hm; exact slc_ne SP2.out BP2.out (by decide) hg)
          have O3 := Below.setCell (bstep2 OB.out P1.out OW2.out FR.out) (p := ⟨w.heap.size, 1, none⟩) (Nat.le_refl _) (.slice A2 (i + 1) cc2)
          have hfr : ∀ g ∈ ownB (.slice A2 (i + 1) cc2), w.heap.size ≤ g := fun g hg => (FR2.out g hg).elim (FR.out g) (fun h => by have := OB.out.size; have := P1.out.size; omega)
          have BP4 := Lib.hid BP3
          have SP4 := Lib.hid SP3
          have O4 := Lib.hid O3
          have HFR := Lib.hid hfr
          clear BP3 SP3 O3 hfr q0 q1
          go_wp2_with fail
          go_roundw
          case rel =>
            refine ⟨i + 1, by omega, by go_num, .slice A2 (i + 1) cc2, BP4, ?_, O4, HFR⟩
            rw [show List.replicate (i + 1) Fr.nil = List.replicate i Fr.nil ++ [Fr.nil] from List.replicate_succ']
            exact SP4
          case measure => simp [intOf]; omega
    · have e : i = k := by omega
      subst e
      go_wp2_with fail
      go_ret2
      exact ⟨w.heap.size, v, by first | rfl | simp, BP.out, SP.out, OB.out, Nat.le_refl _, FR.out⟩
end Go.Proofs.YtbelcgjbhpjnpaaGreat.Sh
