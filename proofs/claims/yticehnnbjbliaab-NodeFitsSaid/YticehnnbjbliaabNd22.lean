/- nodes: the document's records. -/
import Derived.Test.YticehnnbjbliaabNd21
import Derived.Test.YticehnnbjbliaabSlBytes
namespace Go.Proofs.Yticehnnbjbliaab.Nd
open Go.RowKit Sl
attribute [local go_sem ↓] Go.wp_at_zero Go.wp_at_succ exec_app
set_option maxRecDepth 100000 in
set_option maxHeartbeats 4000000 in
theorem records_false {w : World} (A : Option Addr) (n c : Nat) (l : List E) (h : Ents w A n l) (hn : n ≤ 1000) (hm : mayP l false) :
    Calls Try.prog 13 #[nodeV false A n c] w fun r w' => (∃ A' c', r = .returned (.slice A' (n + 1) c') ∧ Slc w' 9 1 (.slice A' (n + 1) c') (n + 1) (strs (recsN false l))) ∧ Below w.heap.size w w' := by
  have hl := Lib.hid h.1
  have H0 := Lib.hid h
  have HQ := Lib.hid (fun e he => may_bounds hm e he)
  have HRT := Lib.hid (recsN_take false l)
  have B1 := Lib.hid ((Blk.new w 24 #[.bool false, .slice A n c]).alloc (.cells #[.string ⟨#[2]⟩] 9))
  have S1 : Slc ((w.alloc (.cells #[.bool false, .slice A n c] 24)).alloc (.cells #[.string ⟨#[2]⟩] 9)) 9 1 (.slice (some ⟨w.heap.size + 1, 0, none⟩) 1 1) 1 (strs [[2]]) := ⟨rfl, .inr ⟨w.heap.size + 1, 1, [], rfl, by have := Blk.new (w.alloc (.cells #[.bool false, .slice A n c] 24)) 9 #[.string ⟨#[2]⟩]; rw [asz] at this; exact this, rfl, by unfold maxLen; omega⟩⟩
  have S1 := Lib.hid S1
  have O1 := Lib.hid (belowAlloc (belowAlloc (Below.refl w.heap.size w) (.cells #[.bool false, .slice A n c] 24)) (.cells #[.string ⟨#[2]⟩] 9))
  have F1 := Lib.hid (show ∀ x ∈ ownB (.slice (some ⟨w.heap.size + 1, 0, none⟩) 1 1), w.heap.size + 1 ≤ x from fun x hx => by simp [ownB] at hx; omega)
  clear h hm
  unfold nodeV
  go_enter Try.func13, Try.ntmps13
  go_wp2_with fail
  generalize hW : ((w.alloc (.cells #[.bool false, .slice A n c] 24)).alloc (.cells #[.string ⟨#[2]⟩] 9)) = W at *
  clear hW
  go_loopw [3, 4] (fun sv iv wr => ∃ (i : Nat) (v' : Value), i ≤ n ∧ sv = v' ∧ iv = .int .i64 i ∧ Blk wr w.heap.size 24 #[.bool false, .slice A n c] ∧ Slc wr 9 1 v' (i + 1) (strs (recsN false (l.take i))) ∧ Below w.heap.size w wr ∧ Hid (∀ x ∈ ownB v', w.heap.size + 1 ≤ x)) (fun _ iv _ => n - (intOf iv).toNat)
  case atStart => exact ⟨0, _, Nat.zero_le _, rfl, rfl, B1.out, S1.out, O1.out, F1⟩
  case round =>
    obtain ⟨i, v', hi, rfl, rfl, C1, S, O, F⟩ := hrel
    obtain ⟨VA, vc, rfl⟩ := slc_val S
    have c1 : wr.cell? ⟨w.heap.size, 1, none⟩ = some (.slice A n c) := C1.cell_some (i := 1) rfl
    by_cases h : i < n
    · obtain ⟨ad, e, rfl, he, AT⟩ := (H0.out.below O).at i h
      obtain ⟨q1, q2, q3, q4⟩ := HQ.out e (List.mem_of_getElem? he)
      have a0 := AT.c0
      have a1 := AT.c1
      have a2 := AT.c2
      obtain ⟨K1, hK1⟩ : ∃ K1 : ByteArray, (⟨#[UInt8.ofNat e.key.size]⟩ : ByteArray) = K1 := ⟨_, rfl⟩
      obtain ⟨T2, hT2⟩ : ∃ T2 : ByteArray, (⟨(two8 (e.far + 1).toNat).toArray⟩ : ByteArray) = T2 := ⟨_, rfl⟩
      have hz1 : K1.size = 1 := by rw [← hK1]; rfl
      have hz2 : T2.size = 2 := by rw [← hT2]; rfl
      have HR := Lib.hid (show strs (recsN false (l.take i)) ++ [Value.string (K1 ++ e.key ++ T2 ++ e.val)] = strs (recsN false (l.take (i + 1))) from by
        rw [← hK1, ← hT2]
        have := recB_eq e
        rw [show (⟨[UInt8.ofNat e.key.size].toArray⟩ : ByteArray) = ⟨#[UInt8.ofNat e.key.size]⟩ from rfl] at this
        rw [this, HRT.out i e he, ← strs_snoc]; rfl)
      have KT := Lib.hid (fun w => rtwo_any (e.far + 1) w (by omega) (by omega))
      rw [hT2] at KT
      have HSTR := Lib.hid (show ∀ (W : World) (g : Nat), Blk W g 5 #[.int .u8 (e.key.size : Int)] → (convert 59 9 (.slice (some ⟨g, 0, none⟩) 1 1)).run Try.prog W = .ok (.string K1) W from fun W g B => by
        have e2 : Value.int .u8 (e.key.size : Int) = bv (UInt8.ofNat e.key.size) := by
          unfold bv
          congr 1
          rw [UInt8.toNat_ofNat']
          omega
        rw [e2] at B
        rw [← hK1]
        exact run_string_of (P := Try.prog) W 59 9 5 Try.underlying59 Try.underlying5 Try.underlying9 ⟨g, 0, none⟩ 1 1 [UInt8.ofNat e.key.size] rfl (cells_at (l := bvs [UInt8.ofNat e.key.size]) B 0 _ (by intro j u hu; rw [Nat.zero_add]; exact hu)))
      have OX0 := belowAlloc (Below.refl wr.heap.size wr) (.cells #[.string e.key, .string e.val, .int .i64 e.far] 50)
      have BX := Lib.hid (Blk.new wr 50 #[.string e.key, .string e.val, .int .i64 e.far])
      have SL := Lib.hid (S.alloc (.cells #[.string e.key, .string e.val, .int .i64 e.far] 50))
      have CX := Lib.hid (C1.alloc (.cells #[.string e.key, .string e.val, .int .i64 e.far] 50))
      have OX := Lib.hid (bstep O OX0)
      have hsv : ∀ x ∈ ownB (.slice VA (i + 1) vc), x < wr.heap.size := S.lt
      have HSV := Lib.hid hsv
      clear AT S C1 O OX0 he hK1 hT2 hsv
      go_wp2_with fail
      generalize hwx : (wr.alloc (.cells #[.string e.key, .string e.val, .int .i64 e.far] 50)) = wx at *
      clear hwx a0 a1 a2 c1
      have hxlt := BX.out.lt
      have HK1 := Lib.hid (show ∀ W', Only (ownB (.slice VA (i + 1) vc)) wx W' → (W'.cell? ⟨wr.heap.size, 0, none⟩ = some (.string e.key) ∧ W'.cell? ⟨wr.heap.size, 1, none⟩ = some (.string e.val) ∧ W'.cell? ⟨wr.heap.size, 2, none⟩ = some (.int .i64 e.far)) from fun W' ho => by
        have B := BX.out.only ho (fun hx => absurd (HSV.out _ hx) (Nat.lt_irrefl _))
        exact ⟨B.cell_some (i := 0) rfl, B.cell_some (i := 1) rfl, B.cell_some (i := 2) rfl⟩)
      have HK0 := Lib.hid (show ∀ W', Only [] wx W' → (W'.cell? ⟨wr.heap.size, 0, none⟩ = some (.string e.key) ∧ W'.cell? ⟨wr.heap.size, 1, none⟩ = some (.string e.val) ∧ W'.cell? ⟨wr.heap.size, 2, none⟩ = some (.int .i64 e.far)) from fun W' ho => HK1.out _ (ho.mono (fun x hx _ => absurd hx (by simp))))
      have HC1 := Lib.hid (show ∀ W', Only (ownB (.slice VA (i + 1) vc)) wx W' → Blk W' w.heap.size 24 #[.bool false, .slice (some ad) n c] from fun W' ho => CX.out.only ho (fun hx => by have := F.out _ hx; omega))
      have HS5 := Lib.hid (show ∀ W' v, Slc W' 9 1 v (i + 1 + 1) (strs (recsN false (l.take (i + 1)))) → Slc W' 9 1 v (i + 1 + 1) (strs (recsN false (l.take (i + 1)))) from fun _ _ h => h)
      have HOB := Lib.hid (show ∀ W', Only (ownB (.slice VA (i + 1) vc)) wx W' → Below w.heap.size w W' from fun W' ho => OX.out.trans (ho.below_of OX.out.size (fun x hx => by have := F.out x hx; omega)))
      have hwl : w.heap.size + 1 ≤ wx.heap.size := by have := CX.out.lt; omega
      have OD := Lib.hid ((Only.refl [] wx).drew)
      have z1 : ¬ 9223372036854775807 < K1.size + e.key.size := by omega
      have z2 : ¬ 9223372036854775807 < K1.size + e.key.size + T2.size := by omega
      have z3 : ¬ 9223372036854775807 < K1.size + e.key.size + T2.size + e.val.size := by omega
      clear hz1 hz2
      have u1 : IntKind.u8.wrap (e.key.size : Int) = (e.key.size : Int) := IntWalk.u8_in _ (by omega)
      have u2 : IntKind.i64.wrap (e.far + 1) = e.far + 1 := IntWalk.i64_in _ (by omega)
      refine wp_region_held_drew (S := fun W' => W'.cell? ⟨wr.heap.size, 0, none⟩ = some (.string e.key) ∧ W'.cell? ⟨wr.heap.size, 1, none⟩ = some (.string e.val) ∧ W'.cell? ⟨wr.heap.size, 2, none⟩ = some (.int .i64 e.far)) (by kernel_rfl) (HK0.out _ OD.out) (fun hHeld => ?_)
      refine wpAnyH_take (i := 0) (oi := ⟨some 22, _, _, _, _, _⟩) (v := ?_) rfl (by kernel_rfl) (by kernel_rfl) (by kernel_rfl) (fun _ _ _ h => h) (Or.inl ⟨by kernel_rfl, ?_⟩) (by assumption) ?_
      rotate_left
      · (intro w hSw; (try dsimp only at hSw); go_simp; (try (with_reducible rfl)))
      try simp only [Act.put, List.setIfInBounds_toArray, List.set_cons_zero, List.set_cons_succ]
      refine wpAnyH_take (i := 1) (oi := ⟨some 23, _, _, _, _, _⟩) (v := ?_) rfl (by kernel_rfl) (by kernel_rfl) (by kernel_rfl) (fun _ _ _ h => h) (Or.inl ⟨by kernel_rfl, ?_⟩) (by assumption) ?_
      rotate_left
      · (intro w hSw; (try dsimp only at hSw); go_simp; (try (with_reducible rfl)))
      try simp only [Act.put, List.setIfInBounds_toArray, List.set_cons_zero, List.set_cons_succ]
      refine wpAnyH_take (i := 2) (oi := ⟨some 24, _, _, _, _, _⟩) (v := ?_) rfl (by kernel_rfl) (by kernel_rfl) (by kernel_rfl) (fun _ _ _ h => h) (Or.inl ⟨by kernel_rfl, ?_⟩) (by assumption) ?_
      rotate_left
      · (intro w hSw; (try dsimp only at hSw); go_simp; (try (with_reducible rfl)))
      try simp only [Act.put, List.setIfInBounds_toArray, List.set_cons_zero, List.set_cons_succ]
      refine wpAnyH_take (i := 3) (oi := ⟨some 25, _, _, _, _, _⟩) (v := ?_) rfl (by kernel_rfl) (by kernel_rfl) (by kernel_rfl) (fun _ _ _ h => h) (Or.inl ⟨by kernel_rfl, ?_⟩) (by assumption) ?_
      rotate_left
      · (intro w hSw; (try dsimp only at hSw); go_simp; (try (with_reducible rfl)))
      try simp only [Act.put, List.setIfInBounds_toArray, List.set_cons_zero, List.set_cons_succ]
      refine wpAnyH_take (i := 4) (oi := ⟨some 26, _, _, _, _, _⟩) (v := ?_) rfl (by kernel_rfl) (by kernel_rfl) (by kernel_rfl) (fun _ _ _ h => h) (Or.inl ⟨by kernel_rfl, ?_⟩) (by assumption) ?_
      rotate_left
      · (intro w hSw; (try dsimp only at hSw); go_simp; (try (with_reducible rfl)))
      try simp only [Act.put, List.setIfInBounds_toArray, List.set_cons_zero, List.set_cons_succ]
      refine wpAnyH_take (i := 7) (oi := ⟨some 29, _, _, _, _, _⟩) (v := ?_) rfl (by kernel_rfl) (by kernel_rfl) (by kernel_rfl) (fun _ _ _ h => h) (Or.inl ⟨by kernel_rfl, ?_⟩) (by assumption) ?_
      rotate_left
      · (intro w hSw; (try dsimp only at hSw); go_simp; (try (with_reducible rfl)))
      try simp only [Act.put, List.setIfInBounds_toArray, List.set_cons_zero, List.set_cons_succ]
      refine wpAnyH_take (i := 8) (oi := ⟨some 30, _, _, _, _, _⟩) (v := ?_) rfl (by kernel_rfl) (by kernel_rfl) (by kernel_rfl) (fun _ _ _ h => h) (Or.inl ⟨by kernel_rfl, ?_⟩) (by assumption) ?_
      rotate_left
      · (intro w hSw; (try dsimp only at hSw); go_simp; (try (with_reducible rfl)))
      try simp only [Act.put, List.setIfInBounds_toArray, List.set_cons_zero, List.set_cons_succ]
      refine wpAnyH_take (i := 10) (oi := ⟨some 32, _, _, _, _, _⟩) (v := ?_) rfl (by kernel_rfl) (by kernel_rfl) (by kernel_rfl) (fun _ _ _ h => h) (Or.inl ⟨by kernel_rfl, ?_⟩) (by assumption) ?_
      rotate_left
      · (intro w hSw; (try dsimp only at hSw); go_simp; (try (with_reducible rfl)))
      try simp only [Act.put, List.setIfInBounds_toArray, List.set_cons_zero, List.set_cons_succ]
      refine wpAnyH_take (i := 11) (oi := ⟨some 33, _, _, _, _, _⟩) (v := ?_) rfl (by kernel_rfl) (by kernel_rfl) (by kernel_rfl) (fun _ _ _ h => h) (Or.inl ⟨by kernel_rfl, ?_⟩) (by assumption) ?_
      rotate_left
      · (intro w hSw; (try dsimp only at hSw); go_simp; (try (with_reducible rfl)))
      try simp only [Act.put, List.setIfInBounds_toArray, List.set_cons_zero, List.set_cons_succ]
      refine wpAnyH_take (i := 12) (oi := ⟨some 34, _, _, _, _, _⟩) (v := ?_) rfl (by kernel_rfl) (by kernel_rfl) (by kernel_rfl) (fun _ _ _ h => h) (Or.inl ⟨by kernel_rfl, ?_⟩) (by assumption) ?_
      rotate_left
      · (intro w hSw; (try dsimp only at hSw); go_simp; (try (with_reducible rfl)))
      try simp only [Act.put, List.setIfInBounds_toArray, List.set_cons_zero, List.set_cons_succ]
      refine wpAnyH_take (i := 15) (oi := ⟨some 37, _, _, _, _, _⟩) (v := ?_) rfl (by kernel_rfl) (by kernel_rfl) (by kernel_rfl) (fun _ _ _ h => h) (Or.inl ⟨by kernel_rfl, ?_⟩) (by assumption) ?_
      rotate_left
      · (intro w hSw; (try dsimp only at hSw); go_simp; (try (with_reducible rfl)))
      try simp only [Act.put, List.setIfInBounds_toArray, List.set_cons_zero, List.set_cons_succ]
      refine wpAnyH_take (i := 16) (oi := ⟨some 38, _, _, _, _, _⟩) (v := ?_) rfl (by kernel_rfl) (by kernel_rfl) (by kernel_rfl) (fun _ _ _ h => h) (Or.inl ⟨by kernel_rfl, ?_⟩) (by assumption) ?_
      rotate_left
      · (intro w hSw; (try dsimp only at hSw); go_simp; (try (with_reducible rfl)))
      try simp only [Act.put, List.setIfInBounds_toArray, List.set_cons_zero, List.set_cons_succ]
      refine wpAnyH_ready (rs := [5, 13]) (by kernel_rfl) (by simp) ?_
      refine AllReadyH.cons (o := ⟨some 27, _, _, _, _, _⟩) rfl (fun K hK => ?_) (AllReadyH.cons (o := ⟨some 35, _, _, _, _, _⟩) rfl (fun K hK => ?_) AllReadyH.nil)
      · go_simp
        have OA := Lib.hid (OD.out.alloc (.cells #[.int .u8 (e.key.size : Int)] 5))
        have BY := Lib.hid ((Blk.new wx 5 #[.int .u8 (e.key.size : Int)]).drew)
        refine hK.out _ _ (HK0.out _ OA.out) (fun hHeld => ?_)
        try simp only [Act.put, List.setIfInBounds_toArray, List.set_cons_zero, List.set_cons_succ]
        refine wpAnyH_ready (rs := [6, 13]) (by kernel_rfl) (by simp) ?_
        refine AllReadyH.cons (o := ⟨some 28, _, _, _, _, _⟩) rfl (fun K hK => ?_) (AllReadyH.cons (o := ⟨some 35, _, _, _, _, _⟩) rfl (fun K hK => ?_) AllReadyH.nil)
        · go_simp
          rw [HSTR.out _ _ BY.out]
          go_simp
          refine hK.out _ _ (HK0.out _ OA.out) (fun hHeld => ?_)
          try simp only [Act.put, List.setIfInBounds_toArray, List.set_cons_zero, List.set_cons_succ]
          refine wpAnyH_take (i := 9) (oi := ⟨some 31, _, _, _, _, _⟩) (v := ?_) rfl (by kernel_rfl) (by kernel_rfl) (by kernel_rfl) (fun _ _ _ h => h) (Or.inl ⟨by kernel_rfl, ?_⟩) (by assumption) ?_
          rotate_left
          · (intro w hSw; (try dsimp only at hSw); go_simp; (try (with_reducible rfl)))
          try simp only [Act.put, List.setIfInBounds_toArray, List.set_cons_zero, List.set_cons_succ]
          refine wpAnyH_ready (rs := [13]) (by kernel_rfl) (by simp) ?_
          refine AllReadyH.cons (o := ⟨some 35, _, _, _, _, _⟩) rfl (fun K hK => ?_) AllReadyH.nil
          go_simp
          go_at_call 29
          refine (KT.out _).mono ?_
          rintro r w2 ⟨rfl, hb2⟩
          have O2 := Lib.hid (OA.out.trans (Only.of_below hb2))
          go_simp
          refine hK.out _ _ (HK0.out _ O2.out) (fun hHeld => ?_)
          try simp only [Act.put, List.setIfInBounds_toArray, List.set_cons_zero, List.set_cons_succ]
          refine wpAnyH_take (i := 14) (oi := ⟨some 36, _, _, _, _, _⟩) (v := ?_) rfl (by kernel_rfl) (by kernel_rfl) (by kernel_rfl) (fun _ _ _ h => h) (Or.inl ⟨by kernel_rfl, ?_⟩) (by assumption) ?_
          rotate_left
          · (intro w hSw; (try dsimp only at hSw); go_simp; (try (with_reducible rfl)))
          try simp only [Act.put, List.setIfInBounds_toArray, List.set_cons_zero, List.set_cons_succ]
          refine wpAnyH_take (i := 17) (oi := ⟨some 39, _, _, _, _, _⟩) (v := ?_) rfl (by kernel_rfl) (by kernel_rfl) (by kernel_rfl) (fun _ _ _ h => h) (Or.inl ⟨by kernel_rfl, ?_⟩) (by assumption) ?_
          rotate_left
          · (intro w hSw; (try dsimp only at hSw); go_simp; (try (with_reducible rfl)))
          try simp only [Act.put, List.setIfInBounds_toArray, List.set_cons_zero, List.set_cons_succ]
          obtain ⟨v2, w5, ea, S5, ow, f5⟩ := append_one (P := Try.prog) (SL.out.only O2.out (fun x _ => by simp)) 34 34 (.string .empty) 16 Try.underlying34 info_string rfl (.string (K1 ++ e.key ++ T2 ++ e.val)) rfl (by unfold maxLen; omega) (by omega)
          obtain ⟨V2, vc2, rfl⟩ := slc_val S5
          have EA := Lib.hid ea
          have OS := Lib.hid (O2.out.alloc (.cells #[.string (K1 ++ e.key ++ T2 ++ e.val)] 9))
          have OT := Lib.hid ((O2.out.mono (S' := ownB (.slice VA (i + 1) vc)) (fun x hx _ => absurd hx (by simp))).trans ow)
          have F5 := Lib.hid (show ∀ x ∈ ownB (.slice V2 (i + 1 + 1) vc2), w.heap.size + 1 ≤ x from fun x hx => (f5 x hx).elim (F.out x) (fun h => by have := O2.out.size; omega))
          rw [HR.out] at S5
          replace S5 := Lib.hid S5
          clear ea ow f5
          refine wpAnyH_ready (rs := [18]) (by kernel_rfl) (by simp) ?_
          refine AllReadyH.cons (o := ⟨some 40, _, _, _, _, _⟩) rfl (fun K hK => ?_) AllReadyH.nil
          go_simp
          refine hK.out _ _ (HK0.out _ OS.out) (fun hHeld => ?_)
          try simp only [Act.put, List.setIfInBounds_toArray, List.set_cons_zero, List.set_cons_succ]
          refine wpAnyH_ready (rs := [19]) (by kernel_rfl) (by simp) ?_
          refine AllReadyH.cons (o := ⟨some 41, _, _, _, _, _⟩) rfl (fun K hK => ?_) AllReadyH.nil
          go_simp
          rw [EA.out]
          go_simp
          refine hK.out _ _ (HK1.out _ OT.out) (fun hHeld => ?_)
          try simp only [Act.put, List.setIfInBounds_toArray, List.set_cons_zero, List.set_cons_succ]
          refine wpAnyH_take (i := 20) (oi := ⟨some 3, _, _, _, _, _⟩) (v := ?_) rfl (by kernel_rfl) (by kernel_rfl) (by kernel_rfl) (fun _ _ _ h => h) (Or.inl ⟨by kernel_rfl, ?_⟩) (by assumption) ?_
          rotate_left
          · (intro w hSw; (try dsimp only at hSw); go_simp; (try (with_reducible rfl)))
          try simp only [Act.put, List.setIfInBounds_toArray, List.set_cons_zero, List.set_cons_succ]
          refine wpAnyH_done (by kernel_rfl) ?_ _
          go_wp2_with fail
          go_roundw
          case rel => exact ⟨i + 1, _, by omega, rfl, by go_num, HC1.out _ OT.out, HS5.out _ _ S5.out, HOB.out _ OT.out, F5⟩
          case measure => simp [intOf]; omega
        · go_simp
          go_at_call 29
          refine (KT.out _).mono ?_
          rintro r w2 ⟨rfl, hb2⟩
          have O2 := Lib.hid (OA.out.trans (Only.of_below hb2))
          have BY2 := Lib.hid (BY.out.below hb2 BY.out.lt)
          go_simp
          refine hK.out _ _ (HK0.out _ O2.out) (fun hHeld => ?_)
          try simp only [Act.put, List.setIfInBounds_toArray, List.set_cons_zero, List.set_cons_succ]
          refine wpAnyH_ready (rs := [6]) (by kernel_rfl) (by simp) ?_
          refine AllReadyH.cons (o := ⟨some 28, _, _, _, _, _⟩) rfl (fun K hK => ?_) AllReadyH.nil
          go_simp
          rw [HSTR.out _ _ BY2.out]
          go_simp
          refine hK.out _ _ (HK0.out _ O2.out) (fun hHeld => ?_)
          try simp only [Act.put, List.setIfInBounds_toArray, List.set_cons_zero, List.set_cons_succ]
          refine wpAnyH_take (i := 9) (oi := ⟨some 31, _, _, _, _, _⟩) (v := ?_) rfl (by kernel_rfl) (by kernel_rfl) (by kernel_rfl) (fun _ _ _ h => h) (Or.inl ⟨by kernel_rfl, ?_⟩) (by assumption) ?_
          rotate_left
          · (intro w hSw; (try dsimp only at hSw); go_simp; (try (with_reducible rfl)))
          try simp only [Act.put, List.setIfInBounds_toArray, List.set_cons_zero, List.set_cons_succ]
          refine wpAnyH_take (i := 14) (oi := ⟨some 36, _, _, _, _, _⟩) (v := ?_) rfl (by kernel_rfl) (by kernel_rfl) (by kernel_rfl) (fun _ _ _ h => h) (Or.inl ⟨by kernel_rfl, ?_⟩) (by assumption) ?_
          rotate_left
          · (intro w hSw; (try dsimp only at hSw); go_simp; (try (with_reducible rfl)))
          try simp only [Act.put, List.setIfInBounds_toArray, List.set_cons_zero, List.set_cons_succ]
          refine wpAnyH_take (i := 17) (oi := ⟨some 39, _, _, _, _, _⟩) (v := ?_) rfl (by kernel_rfl) (by kernel_rfl) (by kernel_rfl) (fun _ _ _ h => h) (Or.inl ⟨by kernel_rfl, ?_⟩) (by assumption) ?_
          rotate_left
          · (intro w hSw; (try dsimp only at hSw); go_simp; (try (with_reducible rfl)))
          try simp only [Act.put, List.setIfInBounds_toArray, List.set_cons_zero, List.set_cons_succ]
          obtain ⟨v2, w5, ea, S5, ow, f5⟩ := append_one (P := Try.prog) (SL.out.only O2.out (fun x _ => by simp)) 34 34 (.string .empty) 16 Try.underlying34 info_string rfl (.string (K1 ++ e.key ++ T2 ++ e.val)) rfl (by unfold maxLen; omega) (by omega)
          obtain ⟨V2, vc2, rfl⟩ := slc_val S5
          have EA := Lib.hid ea
          have OS := Lib.hid (O2.out.alloc (.cells #[.string (K1 ++ e.key ++ T2 ++ e.val)] 9))
          have OT := Lib.hid ((O2.out.mono (S' := ownB (.slice VA (i + 1) vc)) (fun x hx _ => absurd hx (by simp))).trans ow)
          have F5 := Lib.hid (show ∀ x ∈ ownB (.slice V2 (i + 1 + 1) vc2), w.heap.size + 1 ≤ x from fun x hx => (f5 x hx).elim (F.out x) (fun h => by have := O2.out.size; omega))
          rw [HR.out] at S5
          replace S5 := Lib.hid S5
          clear ea ow f5
          refine wpAnyH_ready (rs := [18]) (by kernel_rfl) (by simp) ?_
          refine AllReadyH.cons (o := ⟨some 40, _, _, _, _, _⟩) rfl (fun K hK => ?_) AllReadyH.nil
          go_simp
          refine hK.out _ _ (HK0.out _ OS.out) (fun hHeld => ?_)
          try simp only [Act.put, List.setIfInBounds_toArray, List.set_cons_zero, List.set_cons_succ]
          refine wpAnyH_ready (rs := [19]) (by kernel_rfl) (by simp) ?_
          refine AllReadyH.cons (o := ⟨some 41, _, _, _, _, _⟩) rfl (fun K hK => ?_) AllReadyH.nil
          go_simp
          rw [EA.out]
          go_simp
          refine hK.out _ _ (HK1.out _ OT.out) (fun hHeld => ?_)
          try simp only [Act.put, List.setIfInBounds_toArray, List.set_cons_zero, List.set_cons_succ]
          refine wpAnyH_take (i := 20) (oi := ⟨some 3, _, _, _, _, _⟩) (v := ?_) rfl (by kernel_rfl) (by kernel_rfl) (by kernel_rfl) (fun _ _ _ h => h) (Or.inl ⟨by kernel_rfl, ?_⟩) (by assumption) ?_
          rotate_left
          · (intro w hSw; (try dsimp only at hSw); go_simp; (try (with_reducible rfl)))
          try simp only [Act.put, List.setIfInBounds_toArray, List.set_cons_zero, List.set_cons_succ]
          refine wpAnyH_done (by kernel_rfl) ?_ _
          go_wp2_with fail
          go_roundw
          case rel => exact ⟨i + 1, _, by omega, rfl, by go_num, HC1.out _ OT.out, HS5.out _ _ S5.out, HOB.out _ OT.out, F5⟩
          case measure => simp [intOf]; omega
      · go_simp
        go_at_call 29
        refine (KT.out _).mono ?_
        rintro r w2 ⟨rfl, hb2⟩
        have O2 := Lib.hid (OD.out.trans (Only.of_below hb2))
        go_simp
        refine hK.out _ _ (HK0.out _ O2.out) (fun hHeld => ?_)
        try simp only [Act.put, List.setIfInBounds_toArray, List.set_cons_zero, List.set_cons_succ]
        refine wpAnyH_ready (rs := [5]) (by kernel_rfl) (by simp) ?_
        refine AllReadyH.cons (o := ⟨some 27, _, _, _, _, _⟩) rfl (fun K hK => ?_) AllReadyH.nil
        go_simp
        have O3 := Lib.hid (O2.out.alloc (.cells #[.int .u8 (e.key.size : Int)] 5))
        have BY := Lib.hid (Blk.new w2 5 #[.int .u8 (e.key.size : Int)])
        generalize (w2.alloc (.cells #[.int .u8 (e.key.size : Int)] 5)) = w3 at *
        refine hK.out _ _ (HK0.out _ O3.out) (fun hHeld => ?_)
        try simp only [Act.put, List.setIfInBounds_toArray, List.set_cons_zero, List.set_cons_succ]
        refine wpAnyH_ready (rs := [6]) (by kernel_rfl) (by simp) ?_
        refine AllReadyH.cons (o := ⟨some 28, _, _, _, _, _⟩) rfl (fun K hK => ?_) AllReadyH.nil
        go_simp
        rw [HSTR.out _ _ BY.out]
        go_simp
        refine hK.out _ _ (HK0.out _ O3.out) (fun hHeld => ?_)
        try simp only [Act.put, List.setIfInBounds_toArray, List.set_cons_zero, List.set_cons_succ]
        refine wpAnyH_take (i := 9) (oi := ⟨some 31, _, _, _, _, _⟩) (v := ?_) rfl (by kernel_rfl) (by kernel_rfl) (by kernel_rfl) (fun _ _ _ h => h) (Or.inl ⟨by kernel_rfl, ?_⟩) (by assumption) ?_
        rotate_left
        · (intro w hSw; (try dsimp only at hSw); go_simp; (try (with_reducible rfl)))
        try simp only [Act.put, List.setIfInBounds_toArray, List.set_cons_zero, List.set_cons_succ]
        refine wpAnyH_take (i := 14) (oi := ⟨some 36, _, _, _, _, _⟩) (v := ?_) rfl (by kernel_rfl) (by kernel_rfl) (by kernel_rfl) (fun _ _ _ h => h) (Or.inl ⟨by kernel_rfl, ?_⟩) (by assumption) ?_
        rotate_left
        · (intro w hSw; (try dsimp only at hSw); go_simp; (try (with_reducible rfl)))
        try simp only [Act.put, List.setIfInBounds_toArray, List.set_cons_zero, List.set_cons_succ]
        refine wpAnyH_take (i := 17) (oi := ⟨some 39, _, _, _, _, _⟩) (v := ?_) rfl (by kernel_rfl) (by kernel_rfl) (by kernel_rfl) (fun _ _ _ h => h) (Or.inl ⟨by kernel_rfl, ?_⟩) (by assumption) ?_
        rotate_left
        · (intro w hSw; (try dsimp only at hSw); go_simp; (try (with_reducible rfl)))
        try simp only [Act.put, List.setIfInBounds_toArray, List.set_cons_zero, List.set_cons_succ]
        obtain ⟨v2, w5, ea, S5, ow, f5⟩ := append_one (P := Try.prog) (SL.out.only O3.out (fun x _ => by simp)) 34 34 (.string .empty) 16 Try.underlying34 info_string rfl (.string (K1 ++ e.key ++ T2 ++ e.val)) rfl (by unfold maxLen; omega) (by omega)
        obtain ⟨V2, vc2, rfl⟩ := slc_val S5
        have EA := Lib.hid ea
        have OS := Lib.hid (O3.out.alloc (.cells #[.string (K1 ++ e.key ++ T2 ++ e.val)] 9))
        have OT := Lib.hid ((O3.out.mono (S' := ownB (.slice VA (i + 1) vc)) (fun x hx _ => absurd hx (by simp))).trans ow)
        have F5 := Lib.hid (show ∀ x ∈ ownB (.slice V2 (i + 1 + 1) vc2), w.heap.size + 1 ≤ x from fun x hx => (f5 x hx).elim (F.out x) (fun h => by have := O3.out.size; omega))
        rw [HR.out] at S5
        replace S5 := Lib.hid S5
        clear ea ow f5
        refine wpAnyH_ready (rs := [18]) (by kernel_rfl) (by simp) ?_
        refine AllReadyH.cons (o := ⟨some 40, _, _, _, _, _⟩) rfl (fun K hK => ?_) AllReadyH.nil
        go_simp
        refine hK.out _ _ (HK0.out _ OS.out) (fun hHeld => ?_)
        try simp only [Act.put, List.setIfInBounds_toArray, List.set_cons_zero, List.set_cons_succ]
        refine wpAnyH_ready (rs := [19]) (by kernel_rfl) (by simp) ?_
        refine AllReadyH.cons (o := ⟨some 41, _, _, _, _, _⟩) rfl (fun K hK => ?_) AllReadyH.nil
        go_simp
        rw [EA.out]
        go_simp
        refine hK.out _ _ (HK1.out _ OT.out) (fun hHeld => ?_)
        try simp only [Act.put, List.setIfInBounds_toArray, List.set_cons_zero, List.set_cons_succ]
        refine wpAnyH_take (i := 20) (oi := ⟨some 3, _, _, _, _, _⟩) (v := ?_) rfl (by kernel_rfl) (by kernel_rfl) (by kernel_rfl) (fun _ _ _ h => h) (Or.inl ⟨by kernel_rfl, ?_⟩) (by assumption) ?_
        rotate_left
        · (intro w hSw; (try dsimp only at hSw); go_simp; (try (with_reducible rfl)))
        try simp only [Act.put, List.setIfInBounds_toArray, List.set_cons_zero, List.set_cons_succ]
        refine wpAnyH_done (by kernel_rfl) ?_ _
        go_wp2_with fail
        go_roundw
        case rel => exact ⟨i + 1, _, by omega, rfl, by go_num, HC1.out _ OT.out, HS5.out _ _ S5.out, HOB.out _ OT.out, F5⟩
        case measure => simp [intOf]; omega
    · obtain rfl : i = n := by omega
      have hln := hl.out
      rw [List.take_of_length_le (by omega)] at S
      have SL := Lib.hid S
      have OL := Lib.hid O
      clear S O C1 hln
      go_wp2_with fail
      go_ret
      exact ⟨⟨_, _, rfl, SL.out⟩, OL.out⟩
set_option maxRecDepth 100000 in
set_option maxHeartbeats 4000000 in
theorem records_true {w : World} (A : Option Addr) (n c : Nat) (l : List E) (h : Ents w A n l) (hn : n ≤ 1000) (hm : mayP l true) :
    Calls Try.prog 13 #[nodeV true A n c] w fun r w' => (∃ A' c', r = .returned (.slice A' (n + 1) c') ∧ Slc w' 9 1 (.slice A' (n + 1) c') (n + 1) (strs (recsN true l))) ∧ Below w.heap.size w w' := by
  have hl := Lib.hid h.1
  have H0 := Lib.hid h
  have HQ := Lib.hid (fun e he => may_bounds hm e he)
  have HRT := Lib.hid (recsN_take true l)
  have B1 := Lib.hid (((Blk.new w 24 #[.bool true, .slice A n c]).alloc (.cells #[.string ⟨#[2]⟩] 9)).alloc (.cells #[.string ⟨#[1]⟩] 9))
  have S1 : Slc (((w.alloc (.cells #[.bool true, .slice A n c] 24)).alloc (.cells #[.string ⟨#[2]⟩] 9)).alloc (.cells #[.string ⟨#[1]⟩] 9)) 9 1 (.slice (some ⟨w.heap.size + 1 + 1, 0, none⟩) 1 1) 1 (strs [[1]]) := ⟨rfl, .inr ⟨w.heap.size + 1 + 1, 1, [], rfl, by have := Blk.new ((w.alloc (.cells #[.bool true, .slice A n c] 24)).alloc (.cells #[.string ⟨#[2]⟩] 9)) 9 #[.string ⟨#[1]⟩]; rw [asz, asz] at this; exact this, rfl, by unfold maxLen; omega⟩⟩
  have S1 := Lib.hid S1
  have O1 := Lib.hid (belowAlloc (belowAlloc (belowAlloc (Below.refl w.heap.size w) (.cells #[.bool true, .slice A n c] 24)) (.cells #[.string ⟨#[2]⟩] 9)) (.cells #[.string ⟨#[1]⟩] 9))
  have F1 := Lib.hid (show ∀ x ∈ ownB (.slice (some ⟨w.heap.size + 1 + 1, 0, none⟩) 1 1), w.heap.size + 1 ≤ x from fun x hx => by simp [ownB] at hx; omega)
  clear h hm
  unfold nodeV
  go_enter Try.func13, Try.ntmps13
  go_wp2_with fail
  generalize hW : (((w.alloc (.cells #[.bool true, .slice A n c] 24)).alloc (.cells #[.string ⟨#[2]⟩] 9)).alloc (.cells #[.string ⟨#[1]⟩] 9)) = W at *
  clear hW
  go_loopw [3, 4] (fun sv iv wr => ∃ (i : Nat) (v' : Value), i ≤ n ∧ sv = v' ∧ iv = .int .i64 i ∧ Blk wr w.heap.size 24 #[.bool true, .slice A n c] ∧ Slc wr 9 1 v' (i + 1) (strs (recsN true (l.take i))) ∧ Below w.heap.size w wr ∧ Hid (∀ x ∈ ownB v', w.heap.size + 1 ≤ x)) (fun _ iv _ => n - (intOf iv).toNat)
  case atStart => exact ⟨0, _, Nat.zero_le _, rfl, rfl, B1.out, S1.out, O1.out, F1⟩
  case round =>
    obtain ⟨i, v', hi, rfl, rfl, C1, S, O, F⟩ := hrel
    obtain ⟨VA, vc, rfl⟩ := slc_val S
    have c1 : wr.cell? ⟨w.heap.size, 1, none⟩ = some (.slice A n c) := C1.cell_some (i := 1) rfl
    by_cases h : i < n
    · obtain ⟨ad, e, rfl, he, AT⟩ := (H0.out.below O).at i h
      obtain ⟨q1, q2, q3, q4⟩ := HQ.out e (List.mem_of_getElem? he)
      have a0 := AT.c0
      have a1 := AT.c1
      have a2 := AT.c2
      obtain ⟨K1, hK1⟩ : ∃ K1 : ByteArray, (⟨#[UInt8.ofNat e.key.size]⟩ : ByteArray) = K1 := ⟨_, rfl⟩
      obtain ⟨T2, hT2⟩ : ∃ T2 : ByteArray, (⟨(two8 (e.far + 1).toNat).toArray⟩ : ByteArray) = T2 := ⟨_, rfl⟩
      have hz1 : K1.size = 1 := by rw [← hK1]; rfl
      have hz2 : T2.size = 2 := by rw [← hT2]; rfl
      have HR := Lib.hid (show strs (recsN true (l.take i)) ++ [Value.string (K1 ++ e.key ++ T2 ++ e.val)] = strs (recsN true (l.take (i + 1))) from by
        rw [← hK1, ← hT2]
        have := recB_eq e
        rw [show (⟨[UInt8.ofNat e.key.size].toArray⟩ : ByteArray) = ⟨#[UInt8.ofNat e.key.size]⟩ from rfl] at this
        rw [this, HRT.out i e he, ← strs_snoc]; rfl)
      have KT := Lib.hid (fun w => rtwo_any (e.far + 1) w (by omega) (by omega))
      rw [hT2] at KT
      have HSTR := Lib.hid (show ∀ (W : World) (g : Nat), Blk W g 5 #[.int .u8 (e.key.size : Int)] → (convert 59 9 (.slice (some ⟨g, 0, none⟩) 1 1)).run Try.prog W = .ok (.string K1) W from fun W g B => by
        have e2 : Value.int .u8 (e.key.size : Int) = bv (UInt8.ofNat e.key.size) := by
          unfold bv
          congr 1
          rw [UInt8.toNat_ofNat']
          omega
        rw [e2] at B
        rw [← hK1]
        exact run_string_of (P := Try.prog) W 59 9 5 Try.underlying59 Try.underlying5 Try.underlying9 ⟨g, 0, none⟩ 1 1 [UInt8.ofNat e.key.size] rfl (cells_at (l := bvs [UInt8.ofNat e.key.size]) B 0 _ (by intro j u hu; rw [Nat.zero_add]; exact hu)))
      have OX0 := belowAlloc (Below.refl wr.heap.size wr) (.cells #[.string e.key, .string e.val, .int .i64 e.far] 50)
      have BX := Lib.hid (Blk.new wr 50 #[.string e.key, .string e.val, .int .i64 e.far])
      have SL := Lib.hid (S.alloc (.cells #[.string e.key, .string e.val, .int .i64 e.far] 50))
      have CX := Lib.hid (C1.alloc (.cells #[.string e.key, .string e.val, .int .i64 e.far] 50))
      have OX := Lib.hid (bstep O OX0)
      have hsv : ∀ x ∈ ownB (.slice VA (i + 1) vc), x < wr.heap.size := S.lt
      have HSV := Lib.hid hsv
      clear AT S C1 O OX0 he hK1 hT2 hsv
      go_wp2_with fail
      generalize hwx : (wr.alloc (.cells #[.string e.key, .string e.val, .int .i64 e.far] 50)) = wx at *
      clear hwx a0 a1 a2 c1
      have hxlt := BX.out.lt
      have HK1 := Lib.hid (show ∀ W', Only (ownB (.slice VA (i + 1) vc)) wx W' → (W'.cell? ⟨wr.heap.size, 0, none⟩ = some (.string e.key) ∧ W'.cell? ⟨wr.heap.size, 1, none⟩ = some (.string e.val) ∧ W'.cell? ⟨wr.heap.size, 2, none⟩ = some (.int .i64 e.far)) from fun W' ho => by
        have B := BX.out.only ho (fun hx => absurd (HSV.out _ hx) (Nat.lt_irrefl _))
        exact ⟨B.cell_some (i := 0) rfl, B.cell_some (i := 1) rfl, B.cell_some (i := 2) rfl⟩)
      have HK0 := Lib.hid (show ∀ W', Only [] wx W' → (W'.cell? ⟨wr.heap.size, 0, none⟩ = some (.string e.key) ∧ W'.cell? ⟨wr.heap.size, 1, none⟩ = some (.string e.val) ∧ W'.cell? ⟨wr.heap.size, 2, none⟩ = some (.int .i64 e.far)) from fun W' ho => HK1.out _ (ho.mono (fun x hx _ => absurd hx (by simp))))
      have HC1 := Lib.hid (show ∀ W', Only (ownB (.slice VA (i + 1) vc)) wx W' → Blk W' w.heap.size 24 #[.bool true, .slice (some ad) n c] from fun W' ho => CX.out.only ho (fun hx => by have := F.out _ hx; omega))
      have HS5 := Lib.hid (show ∀ W' v, Slc W' 9 1 v (i + 1 + 1) (strs (recsN true (l.take (i + 1)))) → Slc W' 9 1 v (i + 1 + 1) (strs (recsN true (l.take (i + 1)))) from fun _ _ h => h)
      have HOB := Lib.hid (show ∀ W', Only (ownB (.slice VA (i + 1) vc)) wx W' → Below w.heap.size w W' from fun W' ho => OX.out.trans (ho.below_of OX.out.size (fun x hx => by have := F.out x hx; omega)))
      have hwl : w.heap.size + 1 ≤ wx.heap.size := by have := CX.out.lt; omega
      have OD := Lib.hid ((Only.refl [] wx).drew)
      have z1 : ¬ 9223372036854775807 < K1.size + e.key.size := by omega
      have z2 : ¬ 9223372036854775807 < K1.size + e.key.size + T2.size := by omega
      have z3 : ¬ 9223372036854775807 < K1.size + e.key.size + T2.size + e.val.size := by omega
      clear hz1 hz2
      have u1 : IntKind.u8.wrap (e.key.size : Int) = (e.key.size : Int) := IntWalk.u8_in _ (by omega)
      have u2 : IntKind.i64.wrap (e.far + 1) = e.far + 1 := IntWalk.i64_in _ (by omega)
      refine wp_region_held_drew (S := fun W' => W'.cell? ⟨wr.heap.size, 0, none⟩ = some (.string e.key) ∧ W'.cell? ⟨wr.heap.size, 1, none⟩ = some (.string e.val) ∧ W'.cell? ⟨wr.heap.size, 2, none⟩ = some (.int .i64 e.far)) (by kernel_rfl) (HK0.out _ OD.out) (fun hHeld => ?_)
      refine wpAnyH_take (i := 0) (oi := ⟨some 22, _, _, _, _, _⟩) (v := ?_) rfl (by kernel_rfl) (by kernel_rfl) (by kernel_rfl) (fun _ _ _ h => h) (Or.inl ⟨by kernel_rfl, ?_⟩) (by assumption) ?_
      rotate_left
      · (intro w hSw; (try dsimp only at hSw); go_simp; (try (with_reducible rfl)))
      try simp only [Act.put, List.setIfInBounds_toArray, List.set_cons_zero, List.set_cons_succ]
      refine wpAnyH_take (i := 1) (oi := ⟨some 23, _, _, _, _, _⟩) (v := ?_) rfl (by kernel_rfl) (by kernel_rfl) (by kernel_rfl) (fun _ _ _ h => h) (Or.inl ⟨by kernel_rfl, ?_⟩) (by assumption) ?_
      rotate_left
      · (intro w hSw; (try dsimp only at hSw); go_simp; (try (with_reducible rfl)))
      try simp only [Act.put, List.setIfInBounds_toArray, List.set_cons_zero, List.set_cons_succ]
      refine wpAnyH_take (i := 2) (oi := ⟨some 24, _, _, _, _, _⟩) (v := ?_) rfl (by kernel_rfl) (by kernel_rfl) (by kernel_rfl) (fun _ _ _ h => h) (Or.inl ⟨by kernel_rfl, ?_⟩) (by assumption) ?_
      rotate_left
      · (intro w hSw; (try dsimp only at hSw); go_simp; (try (with_reducible rfl)))
      try simp only [Act.put, List.setIfInBounds_toArray, List.set_cons_zero, List.set_cons_succ]
      refine wpAnyH_take (i := 3) (oi := ⟨some 25, _, _, _, _, _⟩) (v := ?_) rfl (by kernel_rfl) (by kernel_rfl) (by kernel_rfl) (fun _ _ _ h => h) (Or.inl ⟨by kernel_rfl, ?_⟩) (by assumption) ?_
      rotate_left
      · (intro w hSw; (try dsimp only at hSw); go_simp; (try (with_reducible rfl)))
      try simp only [Act.put, List.setIfInBounds_toArray, List.set_cons_zero, List.set_cons_succ]
      refine wpAnyH_take (i := 4) (oi := ⟨some 26, _, _, _, _, _⟩) (v := ?_) rfl (by kernel_rfl) (by kernel_rfl) (by kernel_rfl) (fun _ _ _ h => h) (Or.inl ⟨by kernel_rfl, ?_⟩) (by assumption) ?_
      rotate_left
      · (intro w hSw; (try dsimp only at hSw); go_simp; (try (with_reducible rfl)))
      try simp only [Act.put, List.setIfInBounds_toArray, List.set_cons_zero, List.set_cons_succ]
      refine wpAnyH_take (i := 7) (oi := ⟨some 29, _, _, _, _, _⟩) (v := ?_) rfl (by kernel_rfl) (by kernel_rfl) (by kernel_rfl) (fun _ _ _ h => h) (Or.inl ⟨by kernel_rfl, ?_⟩) (by assumption) ?_
      rotate_left
      · (intro w hSw; (try dsimp only at hSw); go_simp; (try (with_reducible rfl)))
      try simp only [Act.put, List.setIfInBounds_toArray, List.set_cons_zero, List.set_cons_succ]
      refine wpAnyH_take (i := 8) (oi := ⟨some 30, _, _, _, _, _⟩) (v := ?_) rfl (by kernel_rfl) (by kernel_rfl) (by kernel_rfl) (fun _ _ _ h => h) (Or.inl ⟨by kernel_rfl, ?_⟩) (by assumption) ?_
      rotate_left
      · (intro w hSw; (try dsimp only at hSw); go_simp; (try (with_reducible rfl)))
      try simp only [Act.put, List.setIfInBounds_toArray, List.set_cons_zero, List.set_cons_succ]
      refine wpAnyH_take (i := 10) (oi := ⟨some 32, _, _, _, _, _⟩) (v := ?_) rfl (by kernel_rfl) (by kernel_rfl) (by kernel_rfl) (fun _ _ _ h => h) (Or.inl ⟨by kernel_rfl, ?_⟩) (by assumption) ?_
      rotate_left
      · (intro w hSw; (try dsimp only at hSw); go_simp; (try (with_reducible rfl)))
      try simp only [Act.put, List.setIfInBounds_toArray, List.set_cons_zero, List.set_cons_succ]
      refine wpAnyH_take (i := 11) (oi := ⟨some 33, _, _, _, _, _⟩) (v := ?_) rfl (by kernel_rfl) (by kernel_rfl) (by kernel_rfl) (fun _ _ _ h => h) (Or.inl ⟨by kernel_rfl, ?_⟩) (by assumption) ?_
      rotate_left
      · (intro w hSw; (try dsimp only at hSw); go_simp; (try (with_reducible rfl)))
      try simp only [Act.put, List.setIfInBounds_toArray, List.set_cons_zero, List.set_cons_succ]
      refine wpAnyH_take (i := 12) (oi := ⟨some 34, _, _, _, _, _⟩) (v := ?_) rfl (by kernel_rfl) (by kernel_rfl) (by kernel_rfl) (fun _ _ _ h => h) (Or.inl ⟨by kernel_rfl, ?_⟩) (by assumption) ?_
      rotate_left
      · (intro w hSw; (try dsimp only at hSw); go_simp; (try (with_reducible rfl)))
      try simp only [Act.put, List.setIfInBounds_toArray, List.set_cons_zero, List.set_cons_succ]
      refine wpAnyH_take (i := 15) (oi := ⟨some 37, _, _, _, _, _⟩) (v := ?_) rfl (by kernel_rfl) (by kernel_rfl) (by kernel_rfl) (fun _ _ _ h => h) (Or.inl ⟨by kernel_rfl, ?_⟩) (by assumption) ?_
      rotate_left
      · (intro w hSw; (try dsimp only at hSw); go_simp; (try (with_reducible rfl)))
      try simp only [Act.put, List.setIfInBounds_toArray, List.set_cons_zero, List.set_cons_succ]
      refine wpAnyH_take (i := 16) (oi := ⟨some 38, _, _, _, _, _⟩) (v := ?_) rfl (by kernel_rfl) (by kernel_rfl) (by kernel_rfl) (fun _ _ _ h => h) (Or.inl ⟨by kernel_rfl, ?_⟩) (by assumption) ?_
      rotate_left
      · (intro w hSw; (try dsimp only at hSw); go_simp; (try (with_reducible rfl)))
      try simp only [Act.put, List.setIfInBounds_toArray, List.set_cons_zero, List.set_cons_succ]
      refine wpAnyH_ready (rs := [5, 13]) (by kernel_rfl) (by simp) ?_
      refine AllReadyH.cons (o := ⟨some 27, _, _, _, _, _⟩) rfl (fun K hK => ?_) (AllReadyH.cons (o := ⟨some 35, _, _, _, _, _⟩) rfl (fun K hK => ?_) AllReadyH.nil)
      · go_simp
        have OA := Lib.hid (OD.out.alloc (.cells #[.int .u8 (e.key.size : Int)] 5))
        have BY := Lib.hid ((Blk.new wx 5 #[.int .u8 (e.key.size : Int)]).drew)
        refine hK.out _ _ (HK0.out _ OA.out) (fun hHeld => ?_)
        try simp only [Act.put, List.setIfInBounds_toArray, List.set_cons_zero, List.set_cons_succ]
        refine wpAnyH_ready (rs := [6, 13]) (by kernel_rfl) (by simp) ?_
        refine AllReadyH.cons (o := ⟨some 28, _, _, _, _, _⟩) rfl (fun K hK => ?_) (AllReadyH.cons (o := ⟨some 35, _, _, _, _, _⟩) rfl (fun K hK => ?_) AllReadyH.nil)
        · go_simp
          rw [HSTR.out _ _ BY.out]
          go_simp
          refine hK.out _ _ (HK0.out _ OA.out) (fun hHeld => ?_)
          try simp only [Act.put, List.setIfInBounds_toArray, List.set_cons_zero, List.set_cons_succ]
          refine wpAnyH_take (i := 9) (oi := ⟨some 31, _, _, _, _, _⟩) (v := ?_) rfl (by kernel_rfl) (by kernel_rfl) (by kernel_rfl) (fun _ _ _ h => h) (Or.inl ⟨by kernel_rfl, ?_⟩) (by assumption) ?_
          rotate_left
          · (intro w hSw; (try dsimp only at hSw); go_simp; (try (with_reducible rfl)))
          try simp only [Act.put, List.setIfInBounds_toArray, List.set_cons_zero, List.set_cons_succ]
          refine wpAnyH_ready (rs := [13]) (by kernel_rfl) (by simp) ?_
          refine AllReadyH.cons (o := ⟨some 35, _, _, _, _, _⟩) rfl (fun K hK => ?_) AllReadyH.nil
          go_simp
          go_at_call 29
          refine (KT.out _).mono ?_
          rintro r w2 ⟨rfl, hb2⟩
          have O2 := Lib.hid (OA.out.trans (Only.of_below hb2))
          go_simp
          refine hK.out _ _ (HK0.out _ O2.out) (fun hHeld => ?_)
          try simp only [Act.put, List.setIfInBounds_toArray, List.set_cons_zero, List.set_cons_succ]
          refine wpAnyH_take (i := 14) (oi := ⟨some 36, _, _, _, _, _⟩) (v := ?_) rfl (by kernel_rfl) (by kernel_rfl) (by kernel_rfl) (fun _ _ _ h => h) (Or.inl ⟨by kernel_rfl, ?_⟩) (by assumption) ?_
          rotate_left
          · (intro w hSw; (try dsimp only at hSw); go_simp; (try (with_reducible rfl)))
          try simp only [Act.put, List.setIfInBounds_toArray, List.set_cons_zero, List.set_cons_succ]
          refine wpAnyH_take (i := 17) (oi := ⟨some 39, _, _, _, _, _⟩) (v := ?_) rfl (by kernel_rfl) (by kernel_rfl) (by kernel_rfl) (fun _ _ _ h => h) (Or.inl ⟨by kernel_rfl, ?_⟩) (by assumption) ?_
          rotate_left
          · (intro w hSw; (try dsimp only at hSw); go_simp; (try (with_reducible rfl)))
          try simp only [Act.put, List.setIfInBounds_toArray, List.set_cons_zero, List.set_cons_succ]
          obtain ⟨v2, w5, ea, S5, ow, f5⟩ := append_one (P := Try.prog) (SL.out.only O2.out (fun x _ => by simp)) 34 34 (.string .empty) 16 Try.underlying34 info_string rfl (.string (K1 ++ e.key ++ T2 ++ e.val)) rfl (by unfold maxLen; omega) (by omega)
          obtain ⟨V2, vc2, rfl⟩ := slc_val S5
          have EA := Lib.hid ea
          have OS := Lib.hid (O2.out.alloc (.cells #[.string (K1 ++ e.key ++ T2 ++ e.val)] 9))
          have OT := Lib.hid ((O2.out.mono (S' := ownB (.slice VA (i + 1) vc)) (fun x hx _ => absurd hx (by simp))).trans ow)
          have F5 := Lib.hid (show ∀ x ∈ ownB (.slice V2 (i + 1 + 1) vc2), w.heap.size + 1 ≤ x from fun x hx => (f5 x hx).elim (F.out x) (fun h => by have := O2.out.size; omega))
          rw [HR.out] at S5
          replace S5 := Lib.hid S5
          clear ea ow f5
          refine wpAnyH_ready (rs := [18]) (by kernel_rfl) (by simp) ?_
          refine AllReadyH.cons (o := ⟨some 40, _, _, _, _, _⟩) rfl (fun K hK => ?_) AllReadyH.nil
          go_simp
          refine hK.out _ _ (HK0.out _ OS.out) (fun hHeld => ?_)
          try simp only [Act.put, List.setIfInBounds_toArray, List.set_cons_zero, List.set_cons_succ]
          refine wpAnyH_ready (rs := [19]) (by kernel_rfl) (by simp) ?_
          refine AllReadyH.cons (o := ⟨some 41, _, _, _, _, _⟩) rfl (fun K hK => ?_) AllReadyH.nil
          go_simp
          rw [EA.out]
          go_simp
          refine hK.out _ _ (HK1.out _ OT.out) (fun hHeld => ?_)
          try simp only [Act.put, List.setIfInBounds_toArray, List.set_cons_zero, List.set_cons_succ]
          refine wpAnyH_take (i := 20) (oi := ⟨some 3, _, _, _, _, _⟩) (v := ?_) rfl (by kernel_rfl) (by kernel_rfl) (by kernel_rfl) (fun _ _ _ h => h) (Or.inl ⟨by kernel_rfl, ?_⟩) (by assumption) ?_
          rotate_left
          · (intro w hSw; (try dsimp only at hSw); go_simp; (try (with_reducible rfl)))
          try simp only [Act.put, List.setIfInBounds_toArray, List.set_cons_zero, List.set_cons_succ]
          refine wpAnyH_done (by kernel_rfl) ?_ _
          go_wp2_with fail
          go_roundw
          case rel => exact ⟨i + 1, _, by omega, rfl, by go_num, HC1.out _ OT.out, HS5.out _ _ S5.out, HOB.out _ OT.out, F5⟩
          case measure => simp [intOf]; omega
        · go_simp
          go_at_call 29
          refine (KT.out _).mono ?_
          rintro r w2 ⟨rfl, hb2⟩
          have O2 := Lib.hid (OA.out.trans (Only.of_below hb2))
          have BY2 := Lib.hid (BY.out.below hb2 BY.out.lt)
          go_simp
          refine hK.out _ _ (HK0.out _ O2.out) (fun hHeld => ?_)
          try simp only [Act.put, List.setIfInBounds_toArray, List.set_cons_zero, List.set_cons_succ]
          refine wpAnyH_ready (rs := [6]) (by kernel_rfl) (by simp) ?_
          refine AllReadyH.cons (o := ⟨some 28, _, _, _, _, _⟩) rfl (fun K hK => ?_) AllReadyH.nil
          go_simp
          rw [HSTR.out _ _ BY2.out]
          go_simp
          refine hK.out _ _ (HK0.out _ O2.out) (fun hHeld => ?_)
          try simp only [Act.put, List.setIfInBounds_toArray, List.set_cons_zero, List.set_cons_succ]
          refine wpAnyH_take (i := 9) (oi := ⟨some 31, _, _, _, _, _⟩) (v := ?_) rfl (by kernel_rfl) (by kernel_rfl) (by kernel_rfl) (fun _ _ _ h => h) (Or.inl ⟨by kernel_rfl, ?_⟩) (by assumption) ?_
          rotate_left
          · (intro w hSw; (try dsimp only at hSw); go_simp; (try (with_reducible rfl)))
          try simp only [Act.put, List.setIfInBounds_toArray, List.set_cons_zero, List.set_cons_succ]
          refine wpAnyH_take (i := 14) (oi := ⟨some 36, _, _, _, _, _⟩) (v := ?_) rfl (by kernel_rfl) (by kernel_rfl) (by kernel_rfl) (fun _ _ _ h => h) (Or.inl ⟨by kernel_rfl, ?_⟩) (by assumption) ?_
          rotate_left
          · (intro w hSw; (try dsimp only at hSw); go_simp; (try (with_reducible rfl)))
          try simp only [Act.put, List.setIfInBounds_toArray, List.set_cons_zero, List.set_cons_succ]
          refine wpAnyH_take (i := 17) (oi := ⟨some 39, _, _, _, _, _⟩) (v := ?_) rfl (by kernel_rfl) (by kernel_rfl) (by kernel_rfl) (fun _ _ _ h => h) (Or.inl ⟨by kernel_rfl, ?_⟩) (by assumption) ?_
          rotate_left
          · (intro w hSw; (try dsimp only at hSw); go_simp; (try (with_reducible rfl)))
          try simp only [Act.put, List.setIfInBounds_toArray, List.set_cons_zero, List.set_cons_succ]
          obtain ⟨v2, w5, ea, S5, ow, f5⟩ := append_one (P := Try.prog) (SL.out.only O2.out (fun x _ => by simp)) 34 34 (.string .empty) 16 Try.underlying34 info_string rfl (.string (K1 ++ e.key ++ T2 ++ e.val)) rfl (by unfold maxLen; omega) (by omega)
          obtain ⟨V2, vc2, rfl⟩ := slc_val S5
          have EA := Lib.hid ea
          have OS := Lib.hid (O2.out.alloc (.cells #[.string (K1 ++ e.key ++ T2 ++ e.val)] 9))
          have OT := Lib.hid ((O2.out.mono (S' := ownB (.slice VA (i + 1) vc)) (fun x hx _ => absurd hx (by simp))).trans ow)
          have F5 := Lib.hid (show ∀ x ∈ ownB (.slice V2 (i + 1 + 1) vc2), w.heap.size + 1 ≤ x from fun x hx => (f5 x hx).elim (F.out x) (fun h => by have := O2.out.size; omega))
          rw [HR.out] at S5
          replace S5 := Lib.hid S5
          clear ea ow f5
          refine wpAnyH_ready (rs := [18]) (by kernel_rfl) (by simp) ?_
          refine AllReadyH.cons (o := ⟨some 40, _, _, _, _, _⟩) rfl (fun K hK => ?_) AllReadyH.nil
          go_simp
          refine hK.out _ _ (HK0.out _ OS.out) (fun hHeld => ?_)
          try simp only [Act.put, List.setIfInBounds_toArray, List.set_cons_zero, List.set_cons_succ]
          refine wpAnyH_ready (rs := [19]) (by kernel_rfl) (by simp) ?_
          refine AllReadyH.cons (o := ⟨some 41, _, _, _, _, _⟩) rfl (fun K hK => ?_) AllReadyH.nil
          go_simp
          rw [EA.out]
          go_simp
          refine hK.out _ _ (HK1.out _ OT.out) (fun hHeld => ?_)
          try simp only [Act.put, List.setIfInBounds_toArray, List.set_cons_zero, List.set_cons_succ]
          refine wpAnyH_take (i := 20) (oi := ⟨some 3, _, _, _, _, _⟩) (v := ?_) rfl (by kernel_rfl) (by kernel_rfl) (by kernel_rfl) (fun _ _ _ h => h) (Or.inl ⟨by kernel_rfl, ?_⟩) (by assumption) ?_
          rotate_left
          · (intro w hSw; (try dsimp only at hSw); go_simp; (try (with_reducible rfl)))
          try simp only [Act.put, List.setIfInBounds_toArray, List.set_cons_zero, List.set_cons_succ]
          refine wpAnyH_done (by kernel_rfl) ?_ _
          go_wp2_with fail
          go_roundw
          case rel => exact ⟨i + 1, _, by omega, rfl, by go_num, HC1.out _ OT.out, HS5.out _ _ S5.out, HOB.out _ OT.out, F5⟩
          case measure => simp [intOf]; omega
      · go_simp
        go_at_call 29
        refine (KT.out _).mono ?_
        rintro r w2 ⟨rfl, hb2⟩
        have O2 := Lib.hid (OD.out.trans (Only.of_below hb2))
        go_simp
        refine hK.out _ _ (HK0.out _ O2.out) (fun hHeld => ?_)
        try simp only [Act.put, List.setIfInBounds_toArray, List.set_cons_zero, List.set_cons_succ]
        refine wpAnyH_ready (rs := [5]) (by kernel_rfl) (by simp) ?_
        refine AllReadyH.cons (o := ⟨some 27, _, _, _, _, _⟩) rfl (fun K hK => ?_) AllReadyH.nil
        go_simp
        have O3 := Lib.hid (O2.out.alloc (.cells #[.int .u8 (e.key.size : Int)] 5))
        have BY := Lib.hid (Blk.new w2 5 #[.int .u8 (e.key.size : Int)])
        generalize (w2.alloc (.cells #[.int .u8 (e.key.size : Int)] 5)) = w3 at *
        refine hK.out _ _ (HK0.out _ O3.out) (fun hHeld => ?_)
        try simp only [Act.put, List.setIfInBounds_toArray, List.set_cons_zero, List.set_cons_succ]
        refine wpAnyH_ready (rs := [6]) (by kernel_rfl) (by simp) ?_
        refine AllReadyH.cons (o := ⟨some 28, _, _, _, _, _⟩) rfl (fun K hK => ?_) AllReadyH.nil
        go_simp
        rw [HSTR.out _ _ BY.out]
        go_simp
        refine hK.out _ _ (HK0.out _ O3.out) (fun hHeld => ?_)
        try simp only [Act.put, List.setIfInBounds_toArray, List.set_cons_zero, List.set_cons_succ]
        refine wpAnyH_take (i := 9) (oi := ⟨some 31, _, _, _, _, _⟩) (v := ?_) rfl (by kernel_rfl) (by kernel_rfl) (by kernel_rfl) (fun _ _ _ h => h) (Or.inl ⟨by kernel_rfl, ?_⟩) (by assumption) ?_
        rotate_left
        · (intro w hSw; (try dsimp only at hSw); go_simp; (try (with_reducible rfl)))
        try simp only [Act.put, List.setIfInBounds_toArray, List.set_cons_zero, List.set_cons_succ]
        refine wpAnyH_take (i := 14) (oi := ⟨some 36, _, _, _, _, _⟩) (v := ?_) rfl (by kernel_rfl) (by kernel_rfl) (by kernel_rfl) (fun _ _ _ h => h) (Or.inl ⟨by kernel_rfl, ?_⟩) (by assumption) ?_
        rotate_left
        · (intro w hSw; (try dsimp only at hSw); go_simp; (try (with_reducible rfl)))
        try simp only [Act.put, List.setIfInBounds_toArray, List.set_cons_zero, List.set_cons_succ]
        refine wpAnyH_take (i := 17) (oi := ⟨some 39, _, _, _, _, _⟩) (v := ?_) rfl (by kernel_rfl) (by kernel_rfl) (by kernel_rfl) (fun _ _ _ h => h) (Or.inl ⟨by kernel_rfl, ?_⟩) (by assumption) ?_
        rotate_left
        · (intro w hSw; (try dsimp only at hSw); go_simp; (try (with_reducible rfl)))
        try simp only [Act.put, List.setIfInBounds_toArray, List.set_cons_zero, List.set_cons_succ]
        obtain ⟨v2, w5, ea, S5, ow, f5⟩ := append_one (P := Try.prog) (SL.out.only O3.out (fun x _ => by simp)) 34 34 (.string .empty) 16 Try.underlying34 info_string rfl (.string (K1 ++ e.key ++ T2 ++ e.val)) rfl (by unfold maxLen; omega) (by omega)
        obtain ⟨V2, vc2, rfl⟩ := slc_val S5
        have EA := Lib.hid ea
        have OS := Lib.hid (O3.out.alloc (.cells #[.string (K1 ++ e.key ++ T2 ++ e.val)] 9))
        have OT := Lib.hid ((O3.out.mono (S' := ownB (.slice VA (i + 1) vc)) (fun x hx _ => absurd hx (by simp))).trans ow)
        have F5 := Lib.hid (show ∀ x ∈ ownB (.slice V2 (i + 1 + 1) vc2), w.heap.size + 1 ≤ x from fun x hx => (f5 x hx).elim (F.out x) (fun h => by have := O3.out.size; omega))
        rw [HR.out] at S5
        replace S5 := Lib.hid S5
        clear ea ow f5
        refine wpAnyH_ready (rs := [18]) (by kernel_rfl) (by simp) ?_
        refine AllReadyH.cons (o := ⟨some 40, _, _, _, _, _⟩) rfl (fun K hK => ?_) AllReadyH.nil
        go_simp
        refine hK.out _ _ (HK0.out _ OS.out) (fun hHeld => ?_)
        try simp only [Act.put, List.setIfInBounds_toArray, List.set_cons_zero, List.set_cons_succ]
        refine wpAnyH_ready (rs := [19]) (by kernel_rfl) (by simp) ?_
        refine AllReadyH.cons (o := ⟨some 41, _, _, _, _, _⟩) rfl (fun K hK => ?_) AllReadyH.nil
        go_simp
        rw [EA.out]
        go_simp
        refine hK.out _ _ (HK1.out _ OT.out) (fun hHeld => ?_)
        try simp only [Act.put, List.setIfInBounds_toArray, List.set_cons_zero, List.set_cons_succ]
        refine wpAnyH_take (i := 20) (oi := ⟨some 3, _, _, _, _, _⟩) (v := ?_) rfl (by kernel_rfl) (by kernel_rfl) (by kernel_rfl) (fun _ _ _ h => h) (Or.inl ⟨by kernel_rfl, ?_⟩) (by assumption) ?_
        rotate_left
        · (intro w hSw; (try dsimp only at hSw); go_simp; (try (with_reducible rfl)))
        try simp only [Act.put, List.setIfInBounds_toArray, List.set_cons_zero, List.set_cons_succ]
        refine wpAnyH_done (by kernel_rfl) ?_ _
        go_wp2_with fail
        go_roundw
        case rel => exact ⟨i + 1, _, by omega, rfl, by go_num, HC1.out _ OT.out, HS5.out _ _ S5.out, HOB.out _ OT.out, F5⟩
        case measure => simp [intOf]; omega
    · obtain rfl : i = n := by omega
      have hln := hl.out
      rw [List.take_of_length_le (by omega)] at S
      have SL := Lib.hid S
      have OL := Lib.hid O
      clear S O C1 hln
      go_wp2_with fail
      go_ret
      exact ⟨⟨_, _, rfl, SL.out⟩, OL.out⟩
theorem records_any {w : World} (leaf : Bool) (A : Option Addr) (n c : Nat) (l : List E) (h : Ents w A n l) (hn : n ≤ 1000) (hm : mayP l leaf) :
    Calls Try.prog 13 #[nodeV leaf A n c] w fun r w' => (∃ A' c', r = .returned (.slice A' (n + 1) c') ∧ Slc w' 9 1 (.slice A' (n + 1) c') (n + 1) (strs (recsN leaf l))) ∧ Below w.heap.size w w' := by
  cases leaf
  · exact records_false A n c l h hn hm
  · exact records_true A n c l h hn hm
end Go.Proofs.Yticehnnbjbliaab.Nd
