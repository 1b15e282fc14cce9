/- pages on a disk that crashes. -/
import Derived.Test.YtmofbgcanehdoaaPg22
import Derived.Test.YtmofbgcanehdoaaXa
import Derived.Laws.StructEq
import Derived.Deep.RegionHeld3
namespace Go.Proofs.Ytmofbgcanehdoaa.Pg
open Go.RowKit Pk Dk
attribute [local go_sem ↓] Go.wp_at_zero Go.wp_at_succ
theorem pwriteF_bd (d : D) (n : Nat) (id ep kd : Int) (s : List UInt8) (i : Nat) (h : d.calls ≤ 4 * i ∧ d.armed ≤ 9223372036854775807) : (pwriteF d n id ep kd s).1.calls ≤ 4 * ((i + 1 : Nat) : Int) ∧ (pwriteF d n id ep kd s).1.armed ≤ 9223372036854775807 := by
  have := pwrite_bd d n id ep kd s h.2
  omega
set_option maxRecDepth 100000 in
set_option maxHeartbeats 40000000 in
theorem disks_any {w : World} (N : Nat) (hN : N ≤ 255) (A : Option Addr) (m c : Nat) (F : Nat → Pc) (hm : m ≤ 9223372036854775807) (hacts : Pcs w A m F) :
    Calls Try.prog 8 #[.int .u8 (N : Nat), .slice A m c] w fun e w' => e = .returned (.bool true) ∧ Below w.heap.size w w' := by
  obtain ⟨n, hn⟩ : ∃ n, n = N % 40 + 1 := ⟨_, rfl⟩
  have hn1 : 1 ≤ n := by omega
  have hn40 : n ≤ 40 := by omega
  have e1 : ((N : Int) % 40) = (n : Int) - 1 := by omega
  have KN := Lib.hid (fun w => new_yes n w (by omega) (by omega))
  have KX := Lib.hid (fun w => xmade_any n w (by omega))
  have KA := Lib.hid awake11_any
  have KRM := Lib.hid (fun w => rmany_any w n (by omega))
  have HP := Lib.hid hacts
  clear hacts hn
  unfold dp at KN
  unfold xp at KX
  go_enter Try.func8, Try.ntmps8
  go_wp2_with fail
  refine (KN.out _).mono ?_
  rintro e w1 ⟨L, rfl, dd, hb1, fr⟩
  have D1 := Lib.hid dd
  have O1 := Lib.hid hb1
  have F1 := Lib.hid fr
  clear dd hb1 fr KN
  go_wp2_with fail
  refine (KX.out _).mono ?_
  rintro e w2 ⟨b, vS, vW, vI, rfl, mk, hb2⟩
  obtain ⟨M, rfl, xx, fx⟩ := mk.at hn1 (by omega)
  have O2 := Lib.hid (bstep O1.out hb2)
  have BB := Lib.hid (show Both w2 L M n (D.zero n) (X.made n) from ⟨D1.out.below hb2, xx, Rel.made n (by omega), fun e => by have h1 := D1.out.lt L.gL (by simp [Loc.fp]); have h2 := fx M.gI (by simp [XL.fp]); omega⟩)
  have FR := Lib.hid (show ∀ y ∈ bfp L M, w.heap.size ≤ y from fun y hy => (List.mem_append.1 hy).elim (F1.out y) (fun h => Nat.le_trans O1.out.size (fx y h)))
  have KMY := Lib.hid (many_any (D1.out.below hb2))
  unfold dp at KMY
  clear mk hb2 xx fx D1 O1 F1 KX
  go_wp2_with fail
  refine KMY.out.mono ?_
  rintro e w3 ⟨rfl, rfl⟩
  have hmm : ((manyF n : Nat) != manyF n) = false := by simp
  go_wp2_with fail
  refine (KRM.out _).mono ?_
  rintro e w3 ⟨rfl, rfl⟩
  go_wp2_with fail
  refine (KA.out _).mono ?_
  rintro e w3 ⟨rfl, hb3⟩
  have O3 := Lib.hid (bstep O2.out hb3)
  have B3 := Lib.hid (BB.out.below hb3)
  clear hb3 O2 BB KMY KRM hmm
  go_wp2_with fail
  go_loopw [9] (fun iv wr => ∃ (i : Nat) (d : D) (x : X), i ≤ m ∧ i ≤ 40 ∧ iv = .int .i64 i ∧ Hid (Both wr L M n d x) ∧ Hid (d.calls ≤ 4 * (i : Int) ∧ d.armed ≤ 9223372036854775807) ∧ Hid (Below w.heap.size w wr)) (fun iv _ => 41 - (intOf iv).toNat)
  case atStart => exact ⟨0, D.zero n, X.made n, Nat.zero_le _, Nat.zero_le _, rfl, B3, Lib.hid ⟨by show (0 : Int) ≤ _; omega, by show (0 : Int) ≤ _; omega⟩, O3⟩
  case round =>
    obtain ⟨i, d, x, him, hi40, rfl, B, BD, O⟩ := hrel
    have hsm : d.calls ≤ 160 := by have := BD.out.1; omega
    by_cases hgo : i < m ∧ i < 40
    · obtain ⟨g1, g2⟩ := hgo
      have g1I : (i : Int) < (m : Int) := by omega
      have g2I : (i : Int) < 40 := by omega
      obtain ⟨ad, rfl, at00⟩ := HP.out i g1
      generalize F i = a at at00
      have at0 := at00.below O.out
      have hCI := at00.C
      clear at00
      obtain ⟨kind, ii, pid, pep, pkd, ps, s, C⟩ := a
      obtain ⟨CA, Cm, Cc, Ck, Ct, Cb⟩ := C
      obtain ⟨c0, c1, c2, c3, c4, c5, c6, c7, c8, c9, hC, hCm, hs, hps, hpid, hii⟩ := at0
      dsimp only at c0 c1 c2 c3 c4 c5 c6 c7 c8 c9 hC hCm hs hps hpid hii
      have a1 := belowAlloc (Below.refl wr.heap.size wr) (.cells #[.int .i64 kind, .int .i64 ii, .int .i64 pid, .int .i64 pep, .int .i64 pkd, .string ps, .string s, .slice CA Cm Cc, .int .i64 Ct, .int .i64 Cb] 50)
      have B1 := Lib.hid (B.out.below a1)
      have O1 := Lib.hid (bstep O.out a1)
      have X1 := Lib.hid (Blk.new wr 50 #[.int .i64 kind, .int .i64 ii, .int .i64 pid, .int .i64 pep, .int .i64 pkd, .string ps, .string s, .slice CA Cm Cc, .int .i64 Ct, .int .i64 Cb])
      have HCI := Lib.hid (Cr.At.lt hCI)
      have C1 := Lib.hid (Cr.At.below hC a1)
      have HNB := Lib.hid (show wr.heap.size ∉ bfp L M from fun h => Nat.lt_irrefl _ (B.out.lt _ h))
      clear a1 hC hCI
      by_cases hl1 : 600 < ps.size
      · skip
        have hI : (600 : Int) < (ps.size : Int) := by omega
        go_wp2_with fail
        go_roundw
        case rel => exact ⟨i + 1, d, x, by omega, by omega, by go_num, B1, Lib.hid ⟨by have := BD.out.1; omega, BD.out.2⟩, O1⟩
        case measure => simp [intOf]; omega
      by_cases hl2 : 600 < s.size
      · skip
        have hI : ¬ (600 : Int) < (ps.size : Int) := by omega
        have hJ : (600 : Int) < (s.size : Int) := by omega
        go_wp2_with fail
        go_roundw
        case rel => exact ⟨i + 1, d, x, by omega, by omega, by go_num, B1, Lib.hid ⟨by have := BD.out.1; omega, BD.out.2⟩, O1⟩
        case measure => simp [intOf]; omega
      have hI : ¬ (600 : Int) < (ps.size : Int) := by omega
      have hJ : ¬ (600 : Int) < (s.size : Int) := by omega
      by_cases hk : kind = 0
      · skip
        subst hk
        have HBD := Lib.hid B1.out.drew
        have KW := pwrite_any HBD.out.dv pid pep pkd ps hpid (by omega) BD.out.2
        have RR := pwrite_rel HBD.out.r pid pep pkd ps.data.toList
        have KV := fun (W : World) (hx : XAt W M n x) => rpwrite_any hx HBD.out.r pid pep pkd ps hpid (by omega) BD.out.2
        rw [← RR.1] at KV
        have RL := Lib.hid RR.2
        have BDX := Lib.hid (pwriteF_bd d n pid pep pkd ps.data.toList i BD.out)
        generalize (pwriteF d n pid pep pkd ps.data.toList).2 = er at *
        generalize (pwriteF d n pid pep pkd ps.data.toList).1 = d2 at *
        generalize (xpwriteF x n pid pep pkd ps.data.toList).1 = x2 at *
        unfold dp pageV at KW
        unfold xp pageV at KV
        have KW := Lib.hid KW
        have KV := Lib.hid KV
        have her : (er != er) = false := by simp
        clear RR
        go_wp2_with fail
        refine wp_region_held_drew (S := fun W' => W'.cell? ⟨wr.heap.size, 2, none⟩ = some (.int .i64 pid) ∧ W'.cell? ⟨wr.heap.size, 3, none⟩ = some (.int .i64 pep) ∧ W'.cell? ⟨wr.heap.size, 4, none⟩ = some (.int .i64 pkd) ∧ W'.cell? ⟨wr.heap.size, 5, none⟩ = some (.string ps)) (by kernel_rfl) (⟨X1.out.drew.cell_some (i := 2) rfl, X1.out.drew.cell_some (i := 3) rfl, X1.out.drew.cell_some (i := 4) rfl, X1.out.drew.cell_some (i := 5) rfl⟩) (fun hHeld => ?_)
        refine wpAnyH_take (i := 0) (oi := ⟨some 101, _, _, _, _, _⟩) (v := ?_) rfl (by kernel_rfl) (by kernel_rfl) (by kernel_rfl) (fun _ _ _ h => h) (Or.inl ⟨by kernel_rfl, ?_⟩) (by assumption) ?_
        rotate_left
        · (intro w hSw; (try dsimp only at hSw); go_simp; (try (with_reducible rfl)))
        try simp only [Act.put, List.setIfInBounds_toArray, List.set_cons_zero, List.set_cons_succ]
        refine wpAnyH_take (i := 1) (oi := ⟨some 102, _, _, _, _, _⟩) (v := ?_) rfl (by kernel_rfl) (by kernel_rfl) (by kernel_rfl) (fun _ _ _ h => h) (Or.inl ⟨by kernel_rfl, ?_⟩) (by assumption) ?_
        rotate_left
        · (intro w hSw; (try dsimp only at hSw); go_simp; (try (with_reducible rfl)))
        try simp only [Act.put, List.setIfInBounds_toArray, List.set_cons_zero, List.set_cons_succ]
        refine wpAnyH_take (i := 2) (oi := ⟨some 103, _, _, _, _, _⟩) (v := ?_) rfl (by kernel_rfl) (by kernel_rfl) (by kernel_rfl) (fun _ _ _ h => h) (Or.inl ⟨by kernel_rfl, ?_⟩) (by assumption) ?_
        rotate_left
        · (intro w hSw; (try dsimp only at hSw); go_simp; (try (with_reducible rfl)))
        try simp only [Act.put, List.setIfInBounds_toArray, List.set_cons_zero, List.set_cons_succ]
        refine wpAnyH_take (i := 4) (oi := ⟨some 105, _, _, _, _, _⟩) (v := ?_) rfl (by kernel_rfl) (by kernel_rfl) (by kernel_rfl) (fun _ _ _ h => h) (Or.inl ⟨by kernel_rfl, ?_⟩) (by assumption) ?_
        rotate_left
        · (intro w hSw; (try dsimp only at hSw); go_simp; (try (with_reducible rfl)))
        try simp only [Act.put, List.setIfInBounds_toArray, List.set_cons_zero, List.set_cons_succ]
        refine wpAnyH_take (i := 5) (oi := ⟨some 106, _, _, _, _, _⟩) (v := ?_) rfl (by kernel_rfl) (by kernel_rfl) (by kernel_rfl) (fun _ _ _ h => h) (Or.inl ⟨by kernel_rfl, ?_⟩) (by assumption) ?_
        rotate_left
        · (intro w hSw; (try dsimp only at hSw); go_simp; (try (with_reducible rfl)))
        try simp only [Act.put, List.setIfInBounds_toArray, List.set_cons_zero, List.set_cons_succ]
        refine wpAnyH_take (i := 6) (oi := ⟨some 107, _, _, _, _, _⟩) (v := ?_) rfl (by kernel_rfl) (by kernel_rfl) (by kernel_rfl) (fun _ _ _ h => h) (Or.inl ⟨by kernel_rfl, ?_⟩) (by assumption) ?_
        rotate_left
        · (intro w hSw; (try dsimp only at hSw); go_simp; (try (with_reducible rfl)))
        try simp only [Act.put, List.setIfInBounds_toArray, List.set_cons_zero, List.set_cons_succ]
        refine wpAnyH_ready (rs := [3]) (by kernel_rfl) (by simp) ?_
        refine AllReadyH.cons (o := ⟨some 104, _, _, _, _, _⟩) rfl (fun K hK => ?_) AllReadyH.nil
        go_simp
        go_at_call 16
        refine KW.out.mono ?_
        rintro e v1 ⟨rfl, dd, ow⟩
        have DV := Lib.hid dd
        have OW := Lib.hid ow
        have XV := Lib.hid (X1.out.drew.only ow (fun h => HNB.out (List.mem_append_left _ h)))
        clear dd ow
        go_simp
        refine hK.out _ _ (⟨XV.out.cell_some (i := 2) rfl, XV.out.cell_some (i := 3) rfl, XV.out.cell_some (i := 4) rfl, XV.out.cell_some (i := 5) rfl⟩) (fun hHeld => ?_)
        try simp only [Act.put, List.setIfInBounds_toArray, List.set_cons_zero, List.set_cons_succ]
        refine wpAnyH_ready (rs := [7]) (by kernel_rfl) (by simp) ?_
        refine AllReadyH.cons (o := ⟨some 108, _, _, _, _, _⟩) rfl (fun K hK => ?_) AllReadyH.nil
        go_simp
        go_at_call 22
        refine (KV.out _ (Both.ref HBD.out OW.out)).mono ?_
        rintro e v2 ⟨rfl, dd, ow⟩
        have XX := Lib.hid dd
        have OX := Lib.hid ow
        have XV2 := Lib.hid (XV.out.only ow (fun h => HNB.out (List.mem_append_right _ h)))
        clear dd ow
        go_simp
        refine hK.out _ _ (⟨XV2.out.cell_some (i := 2) rfl, XV2.out.cell_some (i := 3) rfl, XV2.out.cell_some (i := 4) rfl, XV2.out.cell_some (i := 5) rfl⟩) (fun hHeld => ?_)
        try simp only [Act.put, List.setIfInBounds_toArray, List.set_cons_zero, List.set_cons_succ]
        refine wpAnyH_take (i := 8) (oi := ⟨some 109, _, _, _, _, _⟩) (v := ?_) rfl (by kernel_rfl) (by kernel_rfl) (by kernel_rfl) (fun _ _ _ h => h) (Or.inl ⟨by kernel_rfl, ?_⟩) (by assumption) ?_
        rotate_left
        · (intro w hSw; (try dsimp only at hSw); go_simp; (try (with_reducible rfl)))
        try simp only [Act.put, List.setIfInBounds_toArray, List.set_cons_zero, List.set_cons_succ]
        refine wpAnyH_done (by kernel_rfl) ?_ _
        have O2 := Lib.hid (show Below w.heap.size w v2 from by
          have o12 := (bfpL L M OW.out).trans (bfpM L M OX.out)
          exact (Below_drewN O1.out 1).trans (o12.below_of (by have := O1.out.size; exact this) FR.out))
        have B2 := Lib.hid (show Both v2 L M n d2 x2 from ⟨DV.out.only OX.out (fun y hy hz => HBD.out.apart y hy hz), XX.out, RL.out, HBD.out.ap⟩)
        go_wp2_with fail
        go_roundw
        case rel => exact ⟨i + 1, d2, x2, by omega, by omega, by go_num, B2, BDX, O2⟩
        case measure => simp [intOf]; omega
      have hw0 := hk
      clear hk
      by_cases hk : kind = 1
      · skip
        subst hk
        have HBD := Lib.hid B1.out.drew
        have KW := pwrite_any HBD.out.dv pid pep pkd ps hpid (by omega) BD.out.2
        have RR := pwrite_rel HBD.out.r pid pep pkd ps.data.toList
        have KV := fun (W : World) (hx : XAt W M n x) => rpwrite_any hx HBD.out.r pid pep pkd ps hpid (by omega) BD.out.2
        rw [← RR.1] at KV
        have RL := Lib.hid RR.2
        have BDX := Lib.hid (pwriteF_bd d n pid pep pkd ps.data.toList i BD.out)
        generalize (pwriteF d n pid pep pkd ps.data.toList).2 = er at *
        generalize (pwriteF d n pid pep pkd ps.data.toList).1 = d2 at *
        generalize (xpwriteF x n pid pep pkd ps.data.toList).1 = x2 at *
        unfold dp pageV at KW
        unfold xp pageV at KV
        have KW := Lib.hid KW
        have KV := Lib.hid KV
        have her : (er != er) = false := by simp
        clear RR
        go_wp2_with fail
        refine wp_region_held_drew (S := fun W' => W'.cell? ⟨wr.heap.size, 2, none⟩ = some (.int .i64 pid) ∧ W'.cell? ⟨wr.heap.size, 3, none⟩ = some (.int .i64 pep) ∧ W'.cell? ⟨wr.heap.size, 4, none⟩ = some (.int .i64 pkd) ∧ W'.cell? ⟨wr.heap.size, 5, none⟩ = some (.string ps)) (by kernel_rfl) (⟨X1.out.drew.cell_some (i := 2) rfl, X1.out.drew.cell_some (i := 3) rfl, X1.out.drew.cell_some (i := 4) rfl, X1.out.drew.cell_some (i := 5) rfl⟩) (fun hHeld => ?_)
        refine wpAnyH_take (i := 0) (oi := ⟨some 101, _, _, _, _, _⟩) (v := ?_) rfl (by kernel_rfl) (by kernel_rfl) (by kernel_rfl) (fun _ _ _ h => h) (Or.inl ⟨by kernel_rfl, ?_⟩) (by assumption) ?_
        rotate_left
        · (intro w hSw; (try dsimp only at hSw); go_simp; (try (with_reducible rfl)))
        try simp only [Act.put, List.setIfInBounds_toArray, List.set_cons_zero, List.set_cons_succ]
        refine wpAnyH_take (i := 1) (oi := ⟨some 102, _, _, _, _, _⟩) (v := ?_) rfl (by kernel_rfl) (by kernel_rfl) (by kernel_rfl) (fun _ _ _ h => h) (Or.inl ⟨by kernel_rfl, ?_⟩) (by assumption) ?_
        rotate_left
        · (intro w hSw; (try dsimp only at hSw); go_simp; (try (with_reducible rfl)))
        try simp only [Act.put, List.setIfInBounds_toArray, List.set_cons_zero, List.set_cons_succ]
        refine wpAnyH_take (i := 2) (oi := ⟨some 103, _, _, _, _, _⟩) (v := ?_) rfl (by kernel_rfl) (by kernel_rfl) (by kernel_rfl) (fun _ _ _ h => h) (Or.inl ⟨by kernel_rfl, ?_⟩) (by assumption) ?_
        rotate_left
        · (intro w hSw; (try dsimp only at hSw); go_simp; (try (with_reducible rfl)))
        try simp only [Act.put, List.setIfInBounds_toArray, List.set_cons_zero, List.set_cons_succ]
        refine wpAnyH_take (i := 4) (oi := ⟨some 105, _, _, _, _, _⟩) (v := ?_) rfl (by kernel_rfl) (by kernel_rfl) (by kernel_rfl) (fun _ _ _ h => h) (Or.inl ⟨by kernel_rfl, ?_⟩) (by assumption) ?_
        rotate_left
        · (intro w hSw; (try dsimp only at hSw); go_simp; (try (with_reducible rfl)))
        try simp only [Act.put, List.setIfInBounds_toArray, List.set_cons_zero, List.set_cons_succ]
        refine wpAnyH_take (i := 5) (oi := ⟨some 106, _, _, _, _, _⟩) (v := ?_) rfl (by kernel_rfl) (by kernel_rfl) (by kernel_rfl) (fun _ _ _ h => h) (Or.inl ⟨by kernel_rfl, ?_⟩) (by assumption) ?_
        rotate_left
        · (intro w hSw; (try dsimp only at hSw); go_simp; (try (with_reducible rfl)))
        try simp only [Act.put, List.setIfInBounds_toArray, List.set_cons_zero, List.set_cons_succ]
        refine wpAnyH_take (i := 6) (oi := ⟨some 107, _, _, _, _, _⟩) (v := ?_) rfl (by kernel_rfl) (by kernel_rfl) (by kernel_rfl) (fun _ _ _ h => h) (Or.inl ⟨by kernel_rfl, ?_⟩) (by assumption) ?_
        rotate_left
        · (intro w hSw; (try dsimp only at hSw); go_simp; (try (with_reducible rfl)))
        try simp only [Act.put, List.setIfInBounds_toArray, List.set_cons_zero, List.set_cons_succ]
        refine wpAnyH_ready (rs := [3]) (by kernel_rfl) (by simp) ?_
        refine AllReadyH.cons (o := ⟨some 104, _, _, _, _, _⟩) rfl (fun K hK => ?_) AllReadyH.nil
        go_simp
        go_at_call 16
        refine KW.out.mono ?_
        rintro e v1 ⟨rfl, dd, ow⟩
        have DV := Lib.hid dd
        have OW := Lib.hid ow
        have XV := Lib.hid (X1.out.drew.only ow (fun h => HNB.out (List.mem_append_left _ h)))
        clear dd ow
        go_simp
        refine hK.out _ _ (⟨XV.out.cell_some (i := 2) rfl, XV.out.cell_some (i := 3) rfl, XV.out.cell_some (i := 4) rfl, XV.out.cell_some (i := 5) rfl⟩) (fun hHeld => ?_)
        try simp only [Act.put, List.setIfInBounds_toArray, List.set_cons_zero, List.set_cons_succ]
        refine wpAnyH_ready (rs := [7]) (by kernel_rfl) (by simp) ?_
        refine AllReadyH.cons (o := ⟨some 108, _, _, _, _, _⟩) rfl (fun K hK => ?_) AllReadyH.nil
        go_simp
        go_at_call 22
        refine (KV.out _ (Both.ref HBD.out OW.out)).mono ?_
        rintro e v2 ⟨rfl, dd, ow⟩
        have XX := Lib.hid dd
        have OX := Lib.hid ow
        have XV2 := Lib.hid (XV.out.only ow (fun h => HNB.out (List.mem_append_right _ h)))
        clear dd ow
        go_simp
        refine hK.out _ _ (⟨XV2.out.cell_some (i := 2) rfl, XV2.out.cell_some (i := 3) rfl, XV2.out.cell_some (i := 4) rfl, XV2.out.cell_some (i := 5) rfl⟩) (fun hHeld => ?_)
        try simp only [Act.put, List.setIfInBounds_toArray, List.set_cons_zero, List.set_cons_succ]
        refine wpAnyH_take (i := 8) (oi := ⟨some 109, _, _, _, _, _⟩) (v := ?_) rfl (by kernel_rfl) (by kernel_rfl) (by kernel_rfl) (fun _ _ _ h => h) (Or.inl ⟨by kernel_rfl, ?_⟩) (by assumption) ?_
        rotate_left
        · (intro w hSw; (try dsimp only at hSw); go_simp; (try (with_reducible rfl)))
        try simp only [Act.put, List.setIfInBounds_toArray, List.set_cons_zero, List.set_cons_succ]
        refine wpAnyH_done (by kernel_rfl) ?_ _
        have O2 := Lib.hid (show Below w.heap.size w v2 from by
          have o12 := (bfpL L M OW.out).trans (bfpM L M OX.out)
          exact (Below_drewN O1.out 1).trans (o12.below_of (by have := O1.out.size; exact this) FR.out))
        have B2 := Lib.hid (show Both v2 L M n d2 x2 from ⟨DV.out.only OX.out (fun y hy hz => HBD.out.apart y hy hz), XX.out, RL.out, HBD.out.ap⟩)
        go_wp2_with fail
        go_roundw
        case rel => exact ⟨i + 1, d2, x2, by omega, by omega, by go_num, B2, BDX, O2⟩
        case measure => simp [intOf]; omega
      have hw1 := hk
      clear hk
      by_cases hk : kind = 3
      · skip
        subst hk
        have K1 := sync_any B1.out.dv (by omega) BD.out.2
        obtain ⟨e1, R1⟩ := B1.out.r.sync
        rw [e1] at K1
        have BDX := Lib.hid (show d.syncF.1.calls ≤ 4 * ((i + 1 : Nat) : Int) ∧ d.syncF.1.armed ≤ 9223372036854775807 from by
          have := sync_bd d BD.out.2
          have := BD.out.1
          omega)
        have a0 := B1.out.r.dok.armed
        have q0 := B1.out.r.dok.calls
        have q1 := BD.out.2
        have KV := fun (w1 : World) (hx : XAt w1 M n x) => xsync_any hx (by rw [← B1.out.r.calls]; omega) (by rw [← B1.out.r.calls]; omega) (by rw [← B1.out.r.arm]; omega) (by rw [← B1.out.r.arm]; omega)
        have RL := Lib.hid R1
        generalize (x.syncF n).2 = er at *
        generalize (x.syncF n).1 = x2 at *
        generalize d.syncF.1 = d2 at *
        unfold dp at K1
        unfold xp at KV
        have K1 := Lib.hid K1
        have KV := Lib.hid KV
        have her : (er != er) = false := by simp
        clear e1 R1 a0 q0 q1
        go_wp2_with fail
        refine K1.out.mono ?_
        rintro e v1 ⟨rfl, dd, ow⟩
        have DV := Lib.hid dd
        have OW := Lib.hid ow
        have XV := Lib.hid (Both.ref B1.out ow)
        clear dd ow
        go_wp2_with fail
        refine (KV.out _ XV.out).mono ?_
        rintro e v2 ⟨rfl, dd, ow⟩
        have O2 := Lib.hid (show Below w.heap.size w v2 from by
          have o12 := (bfpL L M OW.out).trans (bfpM L M ow)
          exact O1.out.trans (o12.below_of O1.out.size FR.out))
        have B2 := Lib.hid (show Both v2 L M n d2 x2 from ⟨DV.out.only ow (fun y hy hz => B1.out.apart y hy hz), dd, RL.out, B1.out.ap⟩)
        clear dd ow
        go_wp2_with fail
        go_roundw
        case rel => exact ⟨i + 1, d2, x2, by omega, by omega, by go_num, B2, BDX, O2⟩
        case measure => simp [intOf]; omega
      have hsync := hk
      clear hk
      by_cases hk : kind = 4
      · cases hd : x.down
        · by_cases hi1 : ii < 1
          · skip
            subst hk
            have K1 := arm_any B1.out.dv ii
            rw [armF_no (B1.out.r.down.trans hd) hi1] at K1
            unfold dp at K1
            have K1 := Lib.hid K1
            have RL := Lib.hid B1.out.r
            have f1 := X1.out.cell_some (i := 1) rfl
            go_wp2_with fail
            refine K1.out.mono ?_
            rintro e v1 ⟨rfl, dd, ow⟩
            have DV := Lib.hid dd
            have OW := Lib.hid ow
            have XV := Lib.hid (Both.ref B1.out ow)
            have XB := X1.out.only ow (fun h => HNB.out (List.mem_append_left _ h))
            clear dd ow
            have O2 := Lib.hid (show Below w.heap.size w v1 from O1.out.trans ((bfpL L M OW.out).below_of O1.out.size FR.out))
            have B2 := Lib.hid (show Both v1 L M n d x from ⟨DV.out, XV.out, RL.out, B1.out.ap⟩)
            clear XB
            go_wp2_with fail
            go_roundw
            case rel => exact ⟨i + 1, d, x, by omega, by omega, by go_num, B2, Lib.hid ⟨by have := BD.out.1; omega, BD.out.2⟩, O2⟩
            case measure => simp [intOf]; omega
          · skip
            subst hk
            have K1 := arm_any B1.out.dv ii
            rw [armF_yes (B1.out.r.down.trans hd) hi1] at K1
            unfold dp at K1
            have K1 := Lib.hid K1
            have RL := Lib.hid B1.out.r
            have f1 := X1.out.cell_some (i := 1) rfl
            go_wp2_with fail
            refine K1.out.mono ?_
            rintro e v1 ⟨rfl, dd, ow⟩
            have DV := Lib.hid dd
            have OW := Lib.hid ow
            have XV := Lib.hid (Both.ref B1.out ow)
            have XB := X1.out.only ow (fun h => HNB.out (List.mem_append_left _ h))
            clear dd ow
            have f3 := XV.out.f3
            have z3 := XV.out.fz 3 (by omega)
            have c1' := XB.cell_some (i := 1) rfl
            clear XB
            have o3 : Only [M.b] v1 (v1.setCell ⟨M.b, 3, none⟩ (.int .i64 ii)) := (Only.refl _ _).setCell (by simp) _
            have O2 := Lib.hid (show Below w.heap.size w (v1.setCell ⟨M.b, 3, none⟩ (.int .i64 ii)) from by
              have o12 := (bfpL L M OW.out).trans (bfpM L M (o3.mono (S' := M.fp) (by simp [XL.fp])))
              exact O1.out.trans (o12.below_of O1.out.size FR.out))
            have B2 := Lib.hid (show Both (v1.setCell ⟨M.b, 3, none⟩ (.int .i64 ii)) L M n { d with armed := ii } { x with arm := ii } from ⟨DV.out.only (o3.mono (S' := M.fp) (by simp [XL.fp])) (fun y hy hz => B1.out.apart y hy hz), XV.out.head (x' := { x with arm := ii }) (XV.out.hb.set_ 3 _) o3 rfl rfl rfl, RL.out.armed ii (by omega), B1.out.ap⟩)
            have BDX := Lib.hid (show ({ d with armed := ii } : D).calls ≤ 4 * ((i + 1 : Nat) : Int) ∧ ({ d with armed := ii } : D).armed ≤ 9223372036854775807 from ⟨by show d.calls ≤ _; have := BD.out.1; omega, by show ii ≤ _; omega⟩)
            clear o3
            go_wp2_with fail
            go_roundw
            case rel => exact ⟨i + 1, _, _, by omega, by omega, by go_num, B2, BDX, O2⟩
            case measure => simp [intOf]; omega
        · skip
          subst hk
          have K1 := arm_any B1.out.dv ii
          rw [armF_down (B1.out.r.down.trans hd)] at K1
          unfold dp at K1
          have K1 := Lib.hid K1
          have RL := Lib.hid B1.out.r
          have f1 := X1.out.cell_some (i := 1) rfl
          go_wp2_with fail
          refine K1.out.mono ?_
          rintro e v1 ⟨rfl, dd, ow⟩
          have DV := Lib.hid dd
          have OW := Lib.hid ow
          have XV := Lib.hid (Both.ref B1.out ow)
          have XB := X1.out.only ow (fun h => HNB.out (List.mem_append_left _ h))
          clear dd ow
          have O2 := Lib.hid (show Below w.heap.size w v1 from O1.out.trans ((bfpL L M OW.out).below_of O1.out.size FR.out))
          have B2 := Lib.hid (show Both v1 L M n d x from ⟨DV.out, XV.out, RL.out, B1.out.ap⟩)
          clear XB
          go_wp2_with fail
          go_roundw
          case rel => exact ⟨i + 1, d, x, by omega, by omega, by go_num, B2, Lib.hid ⟨by have := BD.out.1; omega, BD.out.2⟩, O2⟩
          case measure => simp [intOf]; omega
      have hw4 := hk
      clear hk
      by_cases hk : kind = 5
      · skip
        subst hk
        have hapL : ∀ ad, CA = some ad → 0 < Cm → ad.block ∉ L.fp := fun ad e hp hx => by
          have h1 := HP.out
          have := HCI.out ad e hp
          have := FR.out _ (List.mem_append_left _ hx)
          omega
        have hapM : ∀ ad, CA = some ad → 0 < Cm → ad.block ∉ M.fp := fun ad e hp hx => by
          have := HCI.out ad e hp
          have := FR.out _ (List.mem_append_right _ hx)
          omega
        have K1 := crash_any B1.out.dv ⟨CA, Cm, Cc, Ck, Ct, Cb⟩ C1.out hCm hapL
        have KV := fun (W : World) (hx : XAt W M n x) (hC : Cr.At ⟨CA, Cm, Cc, Ck, Ct, Cb⟩ W) => xcrash_any hx ⟨CA, Cm, Cc, Ck, Ct, Cb⟩ hC hCm hapM
        have RL := Lib.hid (B1.out.r.crash ⟨CA, Cm, Cc, Ck, Ct, Cb⟩)
        have BDX := Lib.hid (show (d.crashF ⟨CA, Cm, Cc, Ck, Ct, Cb⟩ n).calls ≤ 4 * ((i + 1 : Nat) : Int) ∧ (d.crashF ⟨CA, Cm, Cc, Ck, Ct, Cb⟩ n).armed ≤ 9223372036854775807 from ⟨by show (D.crashTo _ d n).1.calls ≤ _; rw [crash_same]; have := BD.out.1; omega, by show (0 : Int) ≤ _; omega⟩)
        have HAPL := Lib.hid hapL
        generalize x.crashF ⟨CA, Cm, Cc, Ck, Ct, Cb⟩ n = x2 at *
        generalize d.crashF ⟨CA, Cm, Cc, Ck, Ct, Cb⟩ n = d2 at *
        unfold dp Cr.val at K1
        unfold xp Cr.val at KV
        dsimp only at K1 KV
        have K1 := Lib.hid K1
        have KV := Lib.hid KV
        clear hapL hapM
        go_wp2_with fail
        refine K1.out.mono ?_
        rintro e v1 hx
        obtain ⟨dd, ow⟩ := hx.2
        obtain ⟨ev, rfl⟩ : ∃ ev, e = .returned ev := ⟨_, hx.1⟩
        have DV := Lib.hid dd
        have OW := Lib.hid ow
        have XV := Lib.hid (Both.ref B1.out ow)
        have CV := Lib.hid (C1.out.only ow HAPL.out)
        have XB := X1.out.only ow (fun h => HNB.out (List.mem_append_left _ h))
        have c7' := XB.cell_some (i := 7) rfl
        have c8' := XB.cell_some (i := 8) rfl
        have c9' := XB.cell_some (i := 9) rfl
        clear dd ow XB hx
        go_wp2_with fail
        refine (KV.out _ XV.out CV.out).mono ?_
        rintro e v2 ⟨rfl, dd, ow⟩
        have O2 := Lib.hid (show Below w.heap.size w v2 from by
          have o12 := (bfpL L M OW.out).trans (bfpM L M ow)
          exact O1.out.trans (o12.below_of O1.out.size FR.out))
        have B2 := Lib.hid (show Both v2 L M n d2 x2 from ⟨DV.out.only ow (fun y hy hz => B1.out.apart y hy hz), dd, RL.out, B1.out.ap⟩)
        clear dd ow
        go_wp2_with fail
        go_roundw
        case rel => exact ⟨i + 1, d2, x2, by omega, by omega, by go_num, B2, BDX, O2⟩
        case measure => simp [intOf]; omega
      have hcrash := hk
      clear hk
      by_cases hk : kind = 6
      · skip
        subst hk
        have HBD := Lib.hid B1.out.drew
        have KW := write_any HBD.out.dv ii s (by omega) BD.out.2
        have RR := HBD.out.r.write ii s
        have a0 := HBD.out.r.dok.armed
        have q0 := HBD.out.r.dok.calls
        have q1 := BD.out.2
        have KV := fun (W : World) (hx : XAt W M n x) => xwrite_any hx ii s (by omega) (by rw [← HBD.out.r.calls]; omega) (by rw [← HBD.out.r.calls]; omega) (by rw [← HBD.out.r.arm]; omega) (by rw [← HBD.out.r.arm]; omega)
        rw [← RR.1] at KV
        have RL := Lib.hid RR.2
        have BDX := Lib.hid (show (d.writeF n ii s.data.toList).1.calls ≤ 4 * ((i + 1 : Nat) : Int) ∧ (d.writeF n ii s.data.toList).1.armed ≤ 9223372036854775807 from by
          have := write_bd d n ii s.data.toList BD.out.2
          have := BD.out.1
          omega)
        generalize (d.writeF n ii s.data.toList).2 = er at *
        generalize (d.writeF n ii s.data.toList).1 = d2 at *
        generalize (x.writeF n ii s).1 = x2 at *
        unfold dp at KW
        unfold xp at KV
        have KW := Lib.hid KW
        have KV := Lib.hid KV
        have her : (er != er) = false := by simp
        clear RR a0 q0 q1
        go_wp2_with fail
        refine wp_region_held_drew (S := fun W' => W'.cell? ⟨wr.heap.size, 1, none⟩ = some (.int .i64 ii) ∧ W'.cell? ⟨wr.heap.size, 6, none⟩ = some (.string s)) (by kernel_rfl) (⟨X1.out.drew.cell_some (i := 1) rfl, X1.out.drew.cell_some (i := 6) rfl⟩) (fun hHeld => ?_)
        refine wpAnyH_take (i := 0) (oi := ⟨some 149, _, _, _, _, _⟩) (v := ?_) rfl (by kernel_rfl) (by kernel_rfl) (by kernel_rfl) (fun _ _ _ h => h) (Or.inl ⟨by kernel_rfl, ?_⟩) (by assumption) ?_
        rotate_left
        · (intro w hSw; (try dsimp only at hSw); go_simp; (try (with_reducible rfl)))
        try simp only [Act.put, List.setIfInBounds_toArray, List.set_cons_zero, List.set_cons_succ]
        refine wpAnyH_take (i := 1) (oi := ⟨some 150, _, _, _, _, _⟩) (v := ?_) rfl (by kernel_rfl) (by kernel_rfl) (by kernel_rfl) (fun _ _ _ h => h) (Or.inl ⟨by kernel_rfl, ?_⟩) (by assumption) ?_
        rotate_left
        · (intro w hSw; (try dsimp only at hSw); go_simp; (try (with_reducible rfl)))
        try simp only [Act.put, List.setIfInBounds_toArray, List.set_cons_zero, List.set_cons_succ]
        refine wpAnyH_take (i := 2) (oi := ⟨some 151, _, _, _, _, _⟩) (v := ?_) rfl (by kernel_rfl) (by kernel_rfl) (by kernel_rfl) (fun _ _ _ h => h) (Or.inl ⟨by kernel_rfl, ?_⟩) (by assumption) ?_
        rotate_left
        · (intro w hSw; (try dsimp only at hSw); go_simp; (try (with_reducible rfl)))
        try simp only [Act.put, List.setIfInBounds_toArray, List.set_cons_zero, List.set_cons_succ]
        refine wpAnyH_take (i := 3) (oi := ⟨some 152, _, _, _, _, _⟩) (v := ?_) rfl (by kernel_rfl) (by kernel_rfl) (by kernel_rfl) (fun _ _ _ h => h) (Or.inl ⟨by kernel_rfl, ?_⟩) (by assumption) ?_
        rotate_left
        · (intro w hSw; (try dsimp only at hSw); go_simp; (try (with_reducible rfl)))
        try simp only [Act.put, List.setIfInBounds_toArray, List.set_cons_zero, List.set_cons_succ]
        refine wpAnyH_take (i := 4) (oi := ⟨some 153, _, _, _, _, _⟩) (v := ?_) rfl (by kernel_rfl) (by kernel_rfl) (by kernel_rfl) (fun _ _ _ h => h) (Or.inl ⟨by kernel_rfl, ?_⟩) (by assumption) ?_
        rotate_left
        · (intro w hSw; (try dsimp only at hSw); go_simp; (try (with_reducible rfl)))
        try simp only [Act.put, List.setIfInBounds_toArray, List.set_cons_zero, List.set_cons_succ]
        refine wpAnyH_take (i := 6) (oi := ⟨some 155, _, _, _, _, _⟩) (v := ?_) rfl (by kernel_rfl) (by kernel_rfl) (by kernel_rfl) (fun _ _ _ h => h) (Or.inl ⟨by kernel_rfl, ?_⟩) (by assumption) ?_
        rotate_left
        · (intro w hSw; (try dsimp only at hSw); go_simp; (try (with_reducible rfl)))
        try simp only [Act.put, List.setIfInBounds_toArray, List.set_cons_zero, List.set_cons_succ]
        refine wpAnyH_take (i := 7) (oi := ⟨some 156, _, _, _, _, _⟩) (v := ?_) rfl (by kernel_rfl) (by kernel_rfl) (by kernel_rfl) (fun _ _ _ h => h) (Or.inl ⟨by kernel_rfl, ?_⟩) (by assumption) ?_
        rotate_left
        · (intro w hSw; (try dsimp only at hSw); go_simp; (try (with_reducible rfl)))
        try simp only [Act.put, List.setIfInBounds_toArray, List.set_cons_zero, List.set_cons_succ]
        refine wpAnyH_take (i := 8) (oi := ⟨some 157, _, _, _, _, _⟩) (v := ?_) rfl (by kernel_rfl) (by kernel_rfl) (by kernel_rfl) (fun _ _ _ h => h) (Or.inl ⟨by kernel_rfl, ?_⟩) (by assumption) ?_
        rotate_left
        · (intro w hSw; (try dsimp only at hSw); go_simp; (try (with_reducible rfl)))
        try simp only [Act.put, List.setIfInBounds_toArray, List.set_cons_zero, List.set_cons_succ]
        refine wpAnyH_take (i := 9) (oi := ⟨some 158, _, _, _, _, _⟩) (v := ?_) rfl (by kernel_rfl) (by kernel_rfl) (by kernel_rfl) (fun _ _ _ h => h) (Or.inl ⟨by kernel_rfl, ?_⟩) (by assumption) ?_
        rotate_left
        · (intro w hSw; (try dsimp only at hSw); go_simp; (try (with_reducible rfl)))
        try simp only [Act.put, List.setIfInBounds_toArray, List.set_cons_zero, List.set_cons_succ]
        refine wpAnyH_take (i := 10) (oi := ⟨some 159, _, _, _, _, _⟩) (v := ?_) rfl (by kernel_rfl) (by kernel_rfl) (by kernel_rfl) (fun _ _ _ h => h) (Or.inl ⟨by kernel_rfl, ?_⟩) (by assumption) ?_
        rotate_left
        · (intro w hSw; (try dsimp only at hSw); go_simp; (try (with_reducible rfl)))
        try simp only [Act.put, List.setIfInBounds_toArray, List.set_cons_zero, List.set_cons_succ]
        refine wpAnyH_ready (rs := [5]) (by kernel_rfl) (by simp) ?_
        refine AllReadyH.cons (o := ⟨some 154, _, _, _, _, _⟩) rfl (fun K hK => ?_) AllReadyH.nil
        go_simp
        go_at_call 28
        refine KW.out.mono ?_
        rintro e v1 ⟨rfl, dd, ow⟩
        have DV := Lib.hid dd
        have OW := Lib.hid ow
        have XV := Lib.hid (X1.out.drew.only ow (fun h => HNB.out (List.mem_append_left _ h)))
        clear dd ow
        go_simp
        refine hK.out _ _ (⟨XV.out.cell_some (i := 1) rfl, XV.out.cell_some (i := 6) rfl⟩) (fun hHeld => ?_)
        try simp only [Act.put, List.setIfInBounds_toArray, List.set_cons_zero, List.set_cons_succ]
        refine wpAnyH_ready (rs := [11]) (by kernel_rfl) (by simp) ?_
        refine AllReadyH.cons (o := ⟨some 160, _, _, _, _, _⟩) rfl (fun K hK => ?_) AllReadyH.nil
        go_simp
        go_at_call 29
        refine (KV.out _ (Both.ref HBD.out OW.out)).mono ?_
        rintro e v2 ⟨rfl, dd, ow⟩
        have XX := Lib.hid dd
        have OX := Lib.hid ow
        have XV2 := Lib.hid (XV.out.only ow (fun h => HNB.out (List.mem_append_right _ h)))
        clear dd ow
        go_simp
        refine hK.out _ _ (⟨XV2.out.cell_some (i := 1) rfl, XV2.out.cell_some (i := 6) rfl⟩) (fun hHeld => ?_)
        try simp only [Act.put, List.setIfInBounds_toArray, List.set_cons_zero, List.set_cons_succ]
        refine wpAnyH_take (i := 12) (oi := ⟨some 161, _, _, _, _, _⟩) (v := ?_) rfl (by kernel_rfl) (by kernel_rfl) (by kernel_rfl) (fun _ _ _ h => h) (Or.inl ⟨by kernel_rfl, ?_⟩) (by assumption) ?_
        rotate_left
        · (intro w hSw; (try dsimp only at hSw); go_simp; (try (with_reducible rfl)))
        try simp only [Act.put, List.setIfInBounds_toArray, List.set_cons_zero, List.set_cons_succ]
        refine wpAnyH_done (by kernel_rfl) ?_ _
        have O2 := Lib.hid (show Below w.heap.size w v2 from by
          have o12 := (bfpL L M OW.out).trans (bfpM L M OX.out)
          exact (Below_drewN O1.out 1).trans (o12.below_of (by have := O1.out.size; exact this) FR.out))
        have B2 := Lib.hid (show Both v2 L M n d2 x2 from ⟨DV.out.only OX.out (fun y hy hz => HBD.out.apart y hy hz), XX.out, RL.out, HBD.out.ap⟩)
        go_wp2_with fail
        go_roundw
        case rel => exact ⟨i + 1, d2, x2, by omega, by omega, by go_num, B2, BDX, O2⟩
        case measure => simp [intOf]; omega
      have hsix := hk
      clear hk
      have k0 : (kind == 0) = false := by rw [beq_eq_false_iff_ne]; omega
      have k1 : (kind == 1) = false := by rw [beq_eq_false_iff_ne]; omega
      have k3 : (kind == 3) = false := by rw [beq_eq_false_iff_ne]; omega
      have k4 : (kind == 4) = false := by rw [beq_eq_false_iff_ne]; omega
      have k5 : (kind == 5) = false := by rw [beq_eq_false_iff_ne]; omega
      have k6 : (kind == 6) = false := by rw [beq_eq_false_iff_ne]; omega
      have K1 := pread_any B1.out.dv ii
      have KV := fun (W : World) (hb : Below (wr.alloc (.cells #[.int .i64 kind, .int .i64 ii, .int .i64 pid, .int .i64 pep, .int .i64 pkd, .string ps, .string s, .slice CA Cm Cc, .int .i64 Ct, .int .i64 Cb] 50)).heap.size (wr.alloc (.cells #[.int .i64 kind, .int .i64 ii, .int .i64 pid, .int .i64 pep, .int .i64 pkd, .string ps, .string s, .slice CA Cm Cc, .int .i64 Ct, .int .i64 Cb] 50)) W) => rpread_any (B1.out.below hb).rf B1.out.r ii
      generalize preadF d n ii = RV at *
      obtain ⟨⟨rid, rep, rkd, rs⟩, rer⟩ := RV
      unfold dp PG.val pageV at K1
      unfold xp PG.val pageV at KV
      dsimp only at K1 KV
      have K1 := Lib.hid K1
      have KV := Lib.hid KV
      have her : (rer != rer) = false := by simp
      go_wp2_with fail
      refine K1.out.mono ?_
      rintro e v1 ⟨rfl, hv1⟩
      have R1 := Lib.hid (Blk.new v1 23 #[.int .i64 rid, .int .i64 rep, .int .i64 rkd, .string ⟨rs.toArray⟩])
      have a2 := belowAlloc hv1 (.cells #[.int .i64 rid, .int .i64 rep, .int .i64 rkd, .string ⟨rs.toArray⟩] 23)
      have O2 := Lib.hid (bstep O1.out a2)
      have H2 := Lib.hid a2
      clear hv1
      have XB := X1.out.below a2 X1.out.lt
      have c1' := XB.cell_some (i := 1) rfl
      clear XB
      clear a2
      go_wp2_with fail
      generalize hv2 : v1.alloc (.cells #[.int .i64 rid, .int .i64 rep, .int .i64 rkd, .string ⟨rs.toArray⟩] 23) = v2 at *
      clear hv2
      refine (KV.out _ H2.out).mono ?_
      rintro e v3 ⟨rfl, hv3⟩
      have R3 := Lib.hid ((R1.out.below hv3 R1.out.lt).alloc (.cells #[.int .i64 rid, .int .i64 rep, .int .i64 rkd, .string ⟨rs.toArray⟩] 23))
      have Q3 := Lib.hid (Blk.new v3 23 #[.int .i64 rid, .int .i64 rep, .int .i64 rkd, .string ⟨rs.toArray⟩])
      have a4 := belowAlloc hv3 (.cells #[.int .i64 rid, .int .i64 rep, .int .i64 rkd, .string ⟨rs.toArray⟩] 23)
      have O4 := Lib.hid (bstep O2.out a4)
      have B4 := Lib.hid ((B1.out.below H2.out).below a4)
      have r0 := R3.out.cell_some (i := 0) rfl
      have r1 := R3.out.cell_some (i := 1) rfl
      have r2 := R3.out.cell_some (i := 2) rfl
      have r3 := R3.out.cell_some (i := 3) rfl
      have s0 := Q3.out.cell_some (i := 0) rfl
      have s1 := Q3.out.cell_some (i := 1) rfl
      have s2 := Q3.out.cell_some (i := 2) rfl
      have s3 := Q3.out.cell_some (i := 3) rfl
      clear hv3 a4
      go_wp2_with fail
      go_roundw
      case rel => exact ⟨i + 1, d, x, by omega, by omega, by go_num, B4, Lib.hid ⟨by have := BD.out.1; omega, BD.out.2⟩, O4⟩
      case measure => simp [intOf]; omega
    · rcases (show ¬ i < m ∨ ¬ i < 40 by omega) with hno | hno
      · skip
        have hnoI : ¬ (i : Int) < (m : Int) := by omega
        go_wp2_with fail
        go_loopw [15] (fun iv wr => ∃ (j : Nat), j ≤ 6 ∧ iv = .int .i64 j ∧ Hid (Both wr L M n d x) ∧ Hid (Below w.heap.size w wr)) (fun iv _ => 6 - (intOf iv).toNat)
        case atStart => exact ⟨0, Nat.zero_le _, rfl, B, O⟩
        case round =>
          obtain ⟨j, hj, rfl, B, O⟩ := hrel
          by_cases hlt : j < 6
          · have hjI : (j : Int) < 6 := by omega
            have K1 := pread_any B.out.dv (j : Int)
            have KV := fun (W : World) (hb : Below wr.heap.size wr W) => rpread_any (B.out.below hb).rf B.out.r (j : Int)
            generalize preadF d n (j : Int) = RV at *
            obtain ⟨⟨rid, rep, rkd, rs⟩, rer⟩ := RV
            unfold dp PG.val pageV at K1
            unfold xp PG.val pageV at KV
            dsimp only at K1 KV
            have K1 := Lib.hid K1
            have KV := Lib.hid KV
            have her : (rer != rer) = false := by simp
            go_wp2_with fail
            refine K1.out.mono ?_
            rintro e v1 ⟨rfl, hv1⟩
            have R1 := Lib.hid (Blk.new v1 23 #[.int .i64 rid, .int .i64 rep, .int .i64 rkd, .string ⟨rs.toArray⟩])
            have a2 := belowAlloc hv1 (.cells #[.int .i64 rid, .int .i64 rep, .int .i64 rkd, .string ⟨rs.toArray⟩] 23)
            have O2 := Lib.hid (bstep O.out a2)
            have H2 := Lib.hid a2
            clear hv1
            clear a2
            go_wp2_with fail
            generalize hv2 : v1.alloc (.cells #[.int .i64 rid, .int .i64 rep, .int .i64 rkd, .string ⟨rs.toArray⟩] 23) = v2 at *
            clear hv2
            refine (KV.out _ H2.out).mono ?_
            rintro e v3 ⟨rfl, hv3⟩
            have R3 := Lib.hid ((R1.out.below hv3 R1.out.lt).alloc (.cells #[.int .i64 rid, .int .i64 rep, .int .i64 rkd, .string ⟨rs.toArray⟩] 23))
            have Q3 := Lib.hid (Blk.new v3 23 #[.int .i64 rid, .int .i64 rep, .int .i64 rkd, .string ⟨rs.toArray⟩])
            have a4 := belowAlloc hv3 (.cells #[.int .i64 rid, .int .i64 rep, .int .i64 rkd, .string ⟨rs.toArray⟩] 23)
            have O4 := Lib.hid (bstep O2.out a4)
            have B4 := Lib.hid ((B.out.below H2.out).below a4)
            have r0 := R3.out.cell_some (i := 0) rfl
            have r1 := R3.out.cell_some (i := 1) rfl
            have r2 := R3.out.cell_some (i := 2) rfl
            have r3 := R3.out.cell_some (i := 3) rfl
            have s0 := Q3.out.cell_some (i := 0) rfl
            have s1 := Q3.out.cell_some (i := 1) rfl
            have s2 := Q3.out.cell_some (i := 2) rfl
            have s3 := Q3.out.cell_some (i := 3) rfl
            clear hv3 a4
            go_wp2_with fail
            go_roundw
            case rel => exact ⟨j + 1, by omega, by go_num, B4, O4⟩
            case measure => simp [intOf]; omega
          · obtain rfl : j = 6 := by omega
            go_wp2_with fail
            go_ret
            exact ⟨by first | rfl | simp, O.out⟩
      · skip
        have hy : (i : Int) < (m : Int) ∨ ¬ (i : Int) < (m : Int) := by omega
        have hnoI : ¬ (i : Int) < 40 := by omega
        rcases hy with hy | hy
        all_goals
          go_wp2_with fail
          go_loopw [15] (fun iv wr => ∃ (j : Nat), j ≤ 6 ∧ iv = .int .i64 j ∧ Hid (Both wr L M n d x) ∧ Hid (Below w.heap.size w wr)) (fun iv _ => 6 - (intOf iv).toNat)
          case atStart => exact ⟨0, Nat.zero_le _, rfl, B, O⟩
          case round =>
            obtain ⟨j, hj, rfl, B, O⟩ := hrel
            by_cases hlt : j < 6
            · have hjI : (j : Int) < 6 := by omega
              have K1 := pread_any B.out.dv (j : Int)
              have KV := fun (W : World) (hb : Below wr.heap.size wr W) => rpread_any (B.out.below hb).rf B.out.r (j : Int)
              generalize preadF d n (j : Int) = RV at *
              obtain ⟨⟨rid, rep, rkd, rs⟩, rer⟩ := RV
              unfold dp PG.val pageV at K1
              unfold xp PG.val pageV at KV
              dsimp only at K1 KV
              have K1 := Lib.hid K1
              have KV := Lib.hid KV
              have her : (rer != rer) = false := by simp
              go_wp2_with fail
              refine K1.out.mono ?_
              rintro e v1 ⟨rfl, hv1⟩
              have R1 := Lib.hid (Blk.new v1 23 #[.int .i64 rid, .int .i64 rep, .int .i64 rkd, .string ⟨rs.toArray⟩])
              have a2 := belowAlloc hv1 (.cells #[.int .i64 rid, .int .i64 rep, .int .i64 rkd, .string ⟨rs.toArray⟩] 23)
              have O2 := Lib.hid (bstep O.out a2)
              have H2 := Lib.hid a2
              clear hv1
              clear a2
              go_wp2_with fail
              generalize hv2 : v1.alloc (.cells #[.int .i64 rid, .int .i64 rep, .int .i64 rkd, .string ⟨rs.toArray⟩] 23) = v2 at *
              clear hv2
              refine (KV.out _ H2.out).mono ?_
              rintro e v3 ⟨rfl, hv3⟩
              have R3 := Lib.hid ((R1.out.below hv3 R1.out.lt).alloc (.cells #[.int .i64 rid, .int .i64 rep, .int .i64 rkd, .string ⟨rs.toArray⟩] 23))
              have Q3 := Lib.hid (Blk.new v3 23 #[.int .i64 rid, .int .i64 rep, .int .i64 rkd, .string ⟨rs.toArray⟩])
              have a4 := belowAlloc hv3 (.cells #[.int .i64 rid, .int .i64 rep, .int .i64 rkd, .string ⟨rs.toArray⟩] 23)
              have O4 := Lib.hid (bstep O2.out a4)
              have B4 := Lib.hid ((B.out.below H2.out).below a4)
              have r0 := R3.out.cell_some (i := 0) rfl
              have r1 := R3.out.cell_some (i := 1) rfl
              have r2 := R3.out.cell_some (i := 2) rfl
              have r3 := R3.out.cell_some (i := 3) rfl
              have s0 := Q3.out.cell_some (i := 0) rfl
              have s1 := Q3.out.cell_some (i := 1) rfl
              have s2 := Q3.out.cell_some (i := 2) rfl
              have s3 := Q3.out.cell_some (i := 3) rfl
              clear hv3 a4
              go_wp2_with fail
              go_roundw
              case rel => exact ⟨j + 1, by omega, by go_num, B4, O4⟩
              case measure => simp [intOf]; omega
            · obtain rfl : j = 6 := by omega
              go_wp2_with fail
              go_ret
              exact ⟨by first | rfl | simp, O.out⟩
end Go.Proofs.Ytmofbgcanehdoaa.Pg
