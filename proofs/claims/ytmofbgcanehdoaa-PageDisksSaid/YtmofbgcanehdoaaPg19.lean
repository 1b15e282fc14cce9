/- pages: apart. -/
import Derived.Test.YtmofbgcanehdoaaPg18
import Derived.Deep.RegionHeld3
namespace Go.Proofs.Ytmofbgcanehdoaa.Pg
open Go.RowKit Pk Dk
attribute [local go_sem ↓] Go.wp_at_zero Go.wp_at_succ
theorem asz (w : World) (o : Obj) : (w.alloc o).heap.size = w.heap.size + 1 := by simp
theorem pwriteF_ok {d : D} {n : Nat} (h : d.Ok n) (id ep kd : Int) (s : List UInt8) : (pwriteF d n id ep kd s).1.Ok n := by
  unfold pwriteF
  split
  · exact h
  · split
    · exact h
    · exact w4_okD h _ _ 4
set_option maxRecDepth 100000 in
set_option maxHeartbeats 4000000 in
theorem apart_bad1 {w : World} (id ep kd : Int) (s : ByteArray) (id' ep' kd' : Int) (s' : ByteArray) (hs : s.size ≤ 9223372036854775807) (hs2 : s'.size ≤ 9223372036854775807) (h1 : 232 < s.size) :
    Calls Try.prog 6 #[pageV id ep kd s, pageV id' ep' kd' s'] w fun e w' => e = .returned (.bool true) ∧ Below w.heap.size w w' := by
  have B0 := Lib.hid ((Blk.new w 23 #[.int .i64 id, .int .i64 ep, .int .i64 kd, .string s]).alloc (.cells #[.int .i64 id', .int .i64 ep', .int .i64 kd', .string s'] 23))
  have C0 := Blk.new (w.alloc (.cells #[.int .i64 id, .int .i64 ep, .int .i64 kd, .string s] 23)) 23 #[.int .i64 id', .int .i64 ep', .int .i64 kd', .string s']
  rw [asz] at C0
  have C0 := Lib.hid C0
  have O0 := Lib.hid (belowAlloc (belowAlloc (Below.refl w.heap.size w) (.cells #[.int .i64 id, .int .i64 ep, .int .i64 kd, .string s] 23)) (.cells #[.int .i64 id', .int .i64 ep', .int .i64 kd', .string s'] 23))
  have KA := Lib.hid awake11_any
  have KN := Lib.hid (fun w => new_yes 50 w (by omega) (by omega))
  obtain ⟨d1, hd1⟩ : ∃ d1, (pwriteF (D.zero 50) 50 3 ep kd s.data.toList).1 = d1 := ⟨_, rfl⟩
  obtain ⟨d2, hd2⟩ : ∃ d2, (pwriteF d1 50 7 ep' kd' s'.data.toList).1 = d2 := ⟨_, rfl⟩
  have hbd : d1.calls ≤ 4 ∧ d1.armed ≤ 9223372036854775807 := by
    have := pwrite_bd (D.zero 50) 50 3 ep kd s.data.toList (by show (0 : Int) ≤ _; omega)
    rw [hd1] at this
    exact ⟨by have h0 : (D.zero 50).calls = 0 := rfl; omega, this.2⟩
  have HW1 := Lib.hid (fun (w : World) (L : Dk.Loc) (h : DiskAt w L 50 (D.zero 50)) => by
    have h1 := pwrite_any h 3 ep kd s (by omega) (by show (0 : Int) ≤ _; omega) (by show (0 : Int) ≤ _; omega)
    rw [hd1] at h1
    exact h1)
  have HW2 := Lib.hid (fun (w : World) (L : Dk.Loc) (h : DiskAt w L 50 d1) => by
    have h1 := pwrite_any h 7 ep' kd' s' (by omega) (by omega) hbd.2
    rw [hd2] at h1
    exact h1)
  have hI : (232 : Int) < (s.size : Int) := by omega
  clear hd1 hd2 hbd
  unfold pageV dp at *
  go_enter Try.func6, Try.ntmps6
  go_wp2_with fail
  refine (KN.out _).mono ?_
  rintro e w1 ⟨L, rfl, dd, hb1, fr⟩
  have O1 := Lib.hid (bstep O0.out hb1)
  have B1 := B0.out.below hb1 B0.out.lt
  have C1 := C0.out.below hb1 C0.out.lt
  have hsz0 : w.heap.size + 2 ≤ w1.heap.size := by have := hb1.size; simp at this; omega
  have hfr : ∀ x ∈ L.fp, w.heap.size + 2 ≤ x := fun x hx => by have := fr x hx; simp at this; omega
  have zb := B1.frozen 0 (by simp)
  have zc := C1.frozen 0 (by simp)
  have cb := B1.cell_some (i := 0) rfl
  have cc := C1.cell_some (i := 0) rfl
  have cb1 := B1.cell_some (i := 1) rfl
  have cb2 := B1.cell_some (i := 2) rfl
  have cb3 := B1.cell_some (i := 3) rfl
  have cc1 := C1.cell_some (i := 1) rfl
  have cc2 := C1.cell_some (i := 2) rfl
  have cc3 := C1.cell_some (i := 3) rfl
  have ow := ((Only.refl [w.heap.size, w.heap.size + 1] w1).setCell (p := ⟨w.heap.size, 0, none⟩) (by simp) (.int .i64 3)).setCell (p := ⟨w.heap.size + 1, 0, none⟩) (by simp) (.int .i64 7)
  have D2 := Lib.hid (dd.only ow (fun x hx hm => by have := hfr x hx; simp at hm; omega))
  have O2 := Lib.hid (O1.out.trans (ow.below_of O1.out.size (by simp)))
  have B2 := Lib.hid ((B1.set_ 0 (.int .i64 3)).far (p := ⟨w.heap.size + 1, 0, none⟩) (by simp) (.int .i64 7))
  have C2 := Lib.hid ((C1.far (p := ⟨w.heap.size, 0, none⟩) (by simp) (.int .i64 3)).set_ 0 (.int .i64 7))
  have FR := Lib.hid hfr
  clear dd hb1 fr B1 C1 ow hfr B0 C0
  go_wp2_with fail
  generalize hwa : (w1.setCell ⟨w.heap.size, 0, none⟩ (.int .i64 3)).setCell ⟨w.heap.size + 1, 0, none⟩ (.int .i64 7) = wa at *
  have HWA := Lib.hid hwa
  clear hwa
  refine (HW1.out _ _ D2.out).mono ?_
  rintro e w2 ⟨rfl, dd, ow⟩
  have O3 := Lib.hid (O2.out.trans (ow.below_of O2.out.size (fun x hx => by have := FR.out x hx; omega)))
  have D3 := Lib.hid dd
  have B3 := Lib.hid (B2.out.only ow (fun hm => by have := FR.out _ hm; omega))
  have C3 := Lib.hid (C2.out.only ow (fun hm => by have := FR.out _ hm; omega))
  clear dd ow D2 O2 B2 C2 HW1 zb zc cb cc cb1 cb2 cb3 cc1 cc2 cc3 HWA
  have c0 := C3.out.cell_some (i := 0) rfl
  have c1 := C3.out.cell_some (i := 1) rfl
  have c2 := C3.out.cell_some (i := 2) rfl
  have c3 := C3.out.cell_some (i := 3) rfl
  go_wp2_with fail
  refine (HW2.out _ _ D3.out).mono ?_
  rintro e w3 ⟨rfl, dd, ow⟩
  have O4 := Lib.hid (O3.out.trans (ow.below_of O3.out.size (fun x hx => by have := FR.out x hx; omega)))
  have D4 := Lib.hid dd
  have B4 := Lib.hid (B3.out.only ow (fun hm => by have := FR.out _ hm; omega))
  have C4 := Lib.hid (C3.out.only ow (fun hm => by have := FR.out _ hm; omega))
  clear dd ow D3 O3 B3 C3 HW2 c0 c1 c2 c3
  have b0 := B4.out.cell_some (i := 0) rfl
  have b1 := B4.out.cell_some (i := 1) rfl
  have b2 := B4.out.cell_some (i := 2) rfl
  have b3 := B4.out.cell_some (i := 3) rfl
  have c0 := C4.out.cell_some (i := 0) rfl
  have c1 := C4.out.cell_some (i := 1) rfl
  have c2 := C4.out.cell_some (i := 2) rfl
  have c3 := C4.out.cell_some (i := 3) rfl
  go_wp2_with fail
  refine (KA.out _).mono ?_
  rintro e wz ⟨rfl, hbz⟩
  have OZ := Lib.hid (bstep O4.out hbz)
  clear hbz
  go_wp2_with fail
  go_ret
  exact ⟨by first | rfl | simp, OZ.out⟩
set_option maxRecDepth 100000 in
set_option maxHeartbeats 4000000 in
theorem apart_bad2 {w : World} (id ep kd : Int) (s : ByteArray) (id' ep' kd' : Int) (s' : ByteArray) (hs : s.size ≤ 9223372036854775807) (hs2 : s'.size ≤ 9223372036854775807) (h1 : ¬ 232 < s.size) (h2 : okP 3 ep kd = false) :
    Calls Try.prog 6 #[pageV id ep kd s, pageV id' ep' kd' s'] w fun e w' => e = .returned (.bool true) ∧ Below w.heap.size w w' := by
  have B0 := Lib.hid ((Blk.new w 23 #[.int .i64 id, .int .i64 ep, .int .i64 kd, .string s]).alloc (.cells #[.int .i64 id', .int .i64 ep', .int .i64 kd', .string s'] 23))
  have C0 := Blk.new (w.alloc (.cells #[.int .i64 id, .int .i64 ep, .int .i64 kd, .string s] 23)) 23 #[.int .i64 id', .int .i64 ep', .int .i64 kd', .string s']
  rw [asz] at C0
  have C0 := Lib.hid C0
  have O0 := Lib.hid (belowAlloc (belowAlloc (Below.refl w.heap.size w) (.cells #[.int .i64 id, .int .i64 ep, .int .i64 kd, .string s] 23)) (.cells #[.int .i64 id', .int .i64 ep', .int .i64 kd', .string s'] 23))
  have KA := Lib.hid awake11_any
  have KN := Lib.hid (fun w => new_yes 50 w (by omega) (by omega))
  obtain ⟨d1, hd1⟩ : ∃ d1, (pwriteF (D.zero 50) 50 3 ep kd s.data.toList).1 = d1 := ⟨_, rfl⟩
  obtain ⟨d2, hd2⟩ : ∃ d2, (pwriteF d1 50 7 ep' kd' s'.data.toList).1 = d2 := ⟨_, rfl⟩
  have hbd : d1.calls ≤ 4 ∧ d1.armed ≤ 9223372036854775807 := by
    have := pwrite_bd (D.zero 50) 50 3 ep kd s.data.toList (by show (0 : Int) ≤ _; omega)
    rw [hd1] at this
    exact ⟨by have h0 : (D.zero 50).calls = 0 := rfl; omega, this.2⟩
  have HW1 := Lib.hid (fun (w : World) (L : Dk.Loc) (h : DiskAt w L 50 (D.zero 50)) => by
    have h1 := pwrite_any h 3 ep kd s (by omega) (by show (0 : Int) ≤ _; omega) (by show (0 : Int) ≤ _; omega)
    rw [hd1] at h1
    exact h1)
  have HW2 := Lib.hid (fun (w : World) (L : Dk.Loc) (h : DiskAt w L 50 d1) => by
    have h1 := pwrite_any h 7 ep' kd' s' (by omega) (by omega) hbd.2
    rw [hd2] at h1
    exact h1)
  have hI : ¬ (232 : Int) < (s.size : Int) := by omega
  have KR1 := Lib.hid (fun w => rright_any (w := w) 3 ep kd s false h2)
  clear hd1 hd2 hbd
  clear h2
  unfold pageV dp at *
  go_enter Try.func6, Try.ntmps6
  go_wp2_with fail
  refine (KN.out _).mono ?_
  rintro e w1 ⟨L, rfl, dd, hb1, fr⟩
  have O1 := Lib.hid (bstep O0.out hb1)
  have B1 := B0.out.below hb1 B0.out.lt
  have C1 := C0.out.below hb1 C0.out.lt
  have hsz0 : w.heap.size + 2 ≤ w1.heap.size := by have := hb1.size; simp at this; omega
  have hfr : ∀ x ∈ L.fp, w.heap.size + 2 ≤ x := fun x hx => by have := fr x hx; simp at this; omega
  have zb := B1.frozen 0 (by simp)
  have zc := C1.frozen 0 (by simp)
  have cb := B1.cell_some (i := 0) rfl
  have cc := C1.cell_some (i := 0) rfl
  have cb1 := B1.cell_some (i := 1) rfl
  have cb2 := B1.cell_some (i := 2) rfl
  have cb3 := B1.cell_some (i := 3) rfl
  have cc1 := C1.cell_some (i := 1) rfl
  have cc2 := C1.cell_some (i := 2) rfl
  have cc3 := C1.cell_some (i := 3) rfl
  have ow := ((Only.refl [w.heap.size, w.heap.size + 1] w1).setCell (p := ⟨w.heap.size, 0, none⟩) (by simp) (.int .i64 3)).setCell (p := ⟨w.heap.size + 1, 0, none⟩) (by simp) (.int .i64 7)
  have D2 := Lib.hid (dd.only ow (fun x hx hm => by have := hfr x hx; simp at hm; omega))
  have O2 := Lib.hid (O1.out.trans (ow.below_of O1.out.size (by simp)))
  have B2 := Lib.hid ((B1.set_ 0 (.int .i64 3)).far (p := ⟨w.heap.size + 1, 0, none⟩) (by simp) (.int .i64 7))
  have C2 := Lib.hid ((C1.far (p := ⟨w.heap.size, 0, none⟩) (by simp) (.int .i64 3)).set_ 0 (.int .i64 7))
  have FR := Lib.hid hfr
  clear dd hb1 fr B1 C1 ow hfr B0 C0
  go_wp2_with fail
  generalize hwa : (w1.setCell ⟨w.heap.size, 0, none⟩ (.int .i64 3)).setCell ⟨w.heap.size + 1, 0, none⟩ (.int .i64 7) = wa at *
  have HWA := Lib.hid hwa
  clear hwa
  refine (HW1.out _ _ D2.out).mono ?_
  rintro e w2 ⟨rfl, dd, ow⟩
  have O3 := Lib.hid (O2.out.trans (ow.below_of O2.out.size (fun x hx => by have := FR.out x hx; omega)))
  have D3 := Lib.hid dd
  have B3 := Lib.hid (B2.out.only ow (fun hm => by have := FR.out _ hm; omega))
  have C3 := Lib.hid (C2.out.only ow (fun hm => by have := FR.out _ hm; omega))
  clear dd ow D2 O2 B2 C2 HW1 zb zc cb cc cb1 cb2 cb3 cc1 cc2 cc3 HWA
  have c0 := C3.out.cell_some (i := 0) rfl
  have c1 := C3.out.cell_some (i := 1) rfl
  have c2 := C3.out.cell_some (i := 2) rfl
  have c3 := C3.out.cell_some (i := 3) rfl
  go_wp2_with fail
  refine (HW2.out _ _ D3.out).mono ?_
  rintro e w3 ⟨rfl, dd, ow⟩
  have O4 := Lib.hid (O3.out.trans (ow.below_of O3.out.size (fun x hx => by have := FR.out x hx; omega)))
  have D4 := Lib.hid dd
  have B4 := Lib.hid (B3.out.only ow (fun hm => by have := FR.out _ hm; omega))
  have C4 := Lib.hid (C3.out.only ow (fun hm => by have := FR.out _ hm; omega))
  clear dd ow D3 O3 B3 C3 HW2 c0 c1 c2 c3
  have b0 := B4.out.cell_some (i := 0) rfl
  have b1 := B4.out.cell_some (i := 1) rfl
  have b2 := B4.out.cell_some (i := 2) rfl
  have b3 := B4.out.cell_some (i := 3) rfl
  have c0 := C4.out.cell_some (i := 0) rfl
  have c1 := C4.out.cell_some (i := 1) rfl
  have c2 := C4.out.cell_some (i := 2) rfl
  have c3 := C4.out.cell_some (i := 3) rfl
  go_wp2_with fail
  refine (KR1.out _).mono ?_
  rintro e w4 ⟨rfl, hbr⟩
  have O5 := Lib.hid (bstep O4.out hbr)
  have Bw4 := Lib.hid (B4.out.below hbr B4.out.lt)
  have Cw4 := Lib.hid (C4.out.below hbr C4.out.lt)
  clear hbr b0 b1 b2 b3 c0 c1 c2 c3
  have b0 := Bw4.out.cell_some (i := 0) rfl
  have b1 := Bw4.out.cell_some (i := 1) rfl
  have b2 := Bw4.out.cell_some (i := 2) rfl
  have b3 := Bw4.out.cell_some (i := 3) rfl
  have c0 := Cw4.out.cell_some (i := 0) rfl
  have c1 := Cw4.out.cell_some (i := 1) rfl
  have c2 := Cw4.out.cell_some (i := 2) rfl
  have c3 := Cw4.out.cell_some (i := 3) rfl
  go_wp2_with fail
  refine (KA.out _).mono ?_
  rintro e wz ⟨rfl, hbz⟩
  have OZ := Lib.hid (bstep O5.out hbz)
  clear hbz
  go_wp2_with fail
  go_ret
  exact ⟨by first | rfl | simp, OZ.out⟩
set_option maxRecDepth 100000 in
set_option maxHeartbeats 4000000 in
theorem apart_bad3 {w : World} (id ep kd : Int) (s : ByteArray) (id' ep' kd' : Int) (s' : ByteArray) (hs : s.size ≤ 9223372036854775807) (hs2 : s'.size ≤ 9223372036854775807) (h1 : ¬ 232 < s.size) (h2 : okP 3 ep kd = true) (h3 : 232 < s'.size) :
    Calls Try.prog 6 #[pageV id ep kd s, pageV id' ep' kd' s'] w fun e w' => e = .returned (.bool true) ∧ Below w.heap.size w w' := by
  have B0 := Lib.hid ((Blk.new w 23 #[.int .i64 id, .int .i64 ep, .int .i64 kd, .string s]).alloc (.cells #[.int .i64 id', .int .i64 ep', .int .i64 kd', .string s'] 23))
  have C0 := Blk.new (w.alloc (.cells #[.int .i64 id, .int .i64 ep, .int .i64 kd, .string s] 23)) 23 #[.int .i64 id', .int .i64 ep', .int .i64 kd', .string s']
  rw [asz] at C0
  have C0 := Lib.hid C0
  have O0 := Lib.hid (belowAlloc (belowAlloc (Below.refl w.heap.size w) (.cells #[.int .i64 id, .int .i64 ep, .int .i64 kd, .string s] 23)) (.cells #[.int .i64 id', .int .i64 ep', .int .i64 kd', .string s'] 23))
  have KA := Lib.hid awake11_any
  have KN := Lib.hid (fun w => new_yes 50 w (by omega) (by omega))
  obtain ⟨d1, hd1⟩ : ∃ d1, (pwriteF (D.zero 50) 50 3 ep kd s.data.toList).1 = d1 := ⟨_, rfl⟩
  obtain ⟨d2, hd2⟩ : ∃ d2, (pwriteF d1 50 7 ep' kd' s'.data.toList).1 = d2 := ⟨_, rfl⟩
  have hbd : d1.calls ≤ 4 ∧ d1.armed ≤ 9223372036854775807 := by
    have := pwrite_bd (D.zero 50) 50 3 ep kd s.data.toList (by show (0 : Int) ≤ _; omega)
    rw [hd1] at this
    exact ⟨by have h0 : (D.zero 50).calls = 0 := rfl; omega, this.2⟩
  have HW1 := Lib.hid (fun (w : World) (L : Dk.Loc) (h : DiskAt w L 50 (D.zero 50)) => by
    have h1 := pwrite_any h 3 ep kd s (by omega) (by show (0 : Int) ≤ _; omega) (by show (0 : Int) ≤ _; omega)
    rw [hd1] at h1
    exact h1)
  have HW2 := Lib.hid (fun (w : World) (L : Dk.Loc) (h : DiskAt w L 50 d1) => by
    have h1 := pwrite_any h 7 ep' kd' s' (by omega) (by omega) hbd.2
    rw [hd2] at h1
    exact h1)
  have hI : ¬ (232 : Int) < (s.size : Int) := by omega
  have hJ : (232 : Int) < (s'.size : Int) := by omega
  have KR1 := Lib.hid (fun w => rright_any (w := w) 3 ep kd s true h2)
  clear hd1 hd2 hbd
  clear h2
  unfold pageV dp at *
  go_enter Try.func6, Try.ntmps6
  go_wp2_with fail
  refine (KN.out _).mono ?_
  rintro e w1 ⟨L, rfl, dd, hb1, fr⟩
  have O1 := Lib.hid (bstep O0.out hb1)
  have B1 := B0.out.below hb1 B0.out.lt
  have C1 := C0.out.below hb1 C0.out.lt
  have hsz0 : w.heap.size + 2 ≤ w1.heap.size := by have := hb1.size; simp at this; omega
  have hfr : ∀ x ∈ L.fp, w.heap.size + 2 ≤ x := fun x hx => by have := fr x hx; simp at this; omega
  have zb := B1.frozen 0 (by simp)
  have zc := C1.frozen 0 (by simp)
  have cb := B1.cell_some (i := 0) rfl
  have cc := C1.cell_some (i := 0) rfl
  have cb1 := B1.cell_some (i := 1) rfl
  have cb2 := B1.cell_some (i := 2) rfl
  have cb3 := B1.cell_some (i := 3) rfl
  have cc1 := C1.cell_some (i := 1) rfl
  have cc2 := C1.cell_some (i := 2) rfl
  have cc3 := C1.cell_some (i := 3) rfl
  have ow := ((Only.refl [w.heap.size, w.heap.size + 1] w1).setCell (p := ⟨w.heap.size, 0, none⟩) (by simp) (.int .i64 3)).setCell (p := ⟨w.heap.size + 1, 0, none⟩) (by simp) (.int .i64 7)
  have D2 := Lib.hid (dd.only ow (fun x hx hm => by have := hfr x hx; simp at hm; omega))
  have O2 := Lib.hid (O1.out.trans (ow.below_of O1.out.size (by simp)))
  have B2 := Lib.hid ((B1.set_ 0 (.int .i64 3)).far (p := ⟨w.heap.size + 1, 0, none⟩) (by simp) (.int .i64 7))
  have C2 := Lib.hid ((C1.far (p := ⟨w.heap.size, 0, none⟩) (by simp) (.int .i64 3)).set_ 0 (.int .i64 7))
  have FR := Lib.hid hfr
  clear dd hb1 fr B1 C1 ow hfr B0 C0
  go_wp2_with fail
  generalize hwa : (w1.setCell ⟨w.heap.size, 0, none⟩ (.int .i64 3)).setCell ⟨w.heap.size + 1, 0, none⟩ (.int .i64 7) = wa at *
  have HWA := Lib.hid hwa
  clear hwa
  refine (HW1.out _ _ D2.out).mono ?_
  rintro e w2 ⟨rfl, dd, ow⟩
  have O3 := Lib.hid (O2.out.trans (ow.below_of O2.out.size (fun x hx => by have := FR.out x hx; omega)))
  have D3 := Lib.hid dd
  have B3 := Lib.hid (B2.out.only ow (fun hm => by have := FR.out _ hm; omega))
  have C3 := Lib.hid (C2.out.only ow (fun hm => by have := FR.out _ hm; omega))
  clear dd ow D2 O2 B2 C2 HW1 zb zc cb cc cb1 cb2 cb3 cc1 cc2 cc3 HWA
  have c0 := C3.out.cell_some (i := 0) rfl
  have c1 := C3.out.cell_some (i := 1) rfl
  have c2 := C3.out.cell_some (i := 2) rfl
  have c3 := C3.out.cell_some (i := 3) rfl
  go_wp2_with fail
  refine (HW2.out _ _ D3.out).mono ?_
  rintro e w3 ⟨rfl, dd, ow⟩
  have O4 := Lib.hid (O3.out.trans (ow.below_of O3.out.size (fun x hx => by have := FR.out x hx; omega)))
  have D4 := Lib.hid dd
  have B4 := Lib.hid (B3.out.only ow (fun hm => by have := FR.out _ hm; omega))
  have C4 := Lib.hid (C3.out.only ow (fun hm => by have := FR.out _ hm; omega))
  clear dd ow D3 O3 B3 C3 HW2 c0 c1 c2 c3
  have b0 := B4.out.cell_some (i := 0) rfl
  have b1 := B4.out.cell_some (i := 1) rfl
  have b2 := B4.out.cell_some (i := 2) rfl
  have b3 := B4.out.cell_some (i := 3) rfl
  have c0 := C4.out.cell_some (i := 0) rfl
  have c1 := C4.out.cell_some (i := 1) rfl
  have c2 := C4.out.cell_some (i := 2) rfl
  have c3 := C4.out.cell_some (i := 3) rfl
  go_wp2_with fail
  refine (KR1.out _).mono ?_
  rintro e w4 ⟨rfl, hbr⟩
  have O5 := Lib.hid (bstep O4.out hbr)
  have Bw4 := Lib.hid (B4.out.below hbr B4.out.lt)
  have Cw4 := Lib.hid (C4.out.below hbr C4.out.lt)
  clear hbr b0 b1 b2 b3 c0 c1 c2 c3
  have b0 := Bw4.out.cell_some (i := 0) rfl
  have b1 := Bw4.out.cell_some (i := 1) rfl
  have b2 := Bw4.out.cell_some (i := 2) rfl
  have b3 := Bw4.out.cell_some (i := 3) rfl
  have c0 := Cw4.out.cell_some (i := 0) rfl
  have c1 := Cw4.out.cell_some (i := 1) rfl
  have c2 := Cw4.out.cell_some (i := 2) rfl
  have c3 := Cw4.out.cell_some (i := 3) rfl
  go_wp2_with fail
  refine (KA.out _).mono ?_
  rintro e wz ⟨rfl, hbz⟩
  have OZ := Lib.hid (bstep O5.out hbz)
  clear hbz
  go_wp2_with fail
  go_ret
  exact ⟨by first | rfl | simp, OZ.out⟩
set_option maxRecDepth 100000 in
set_option maxHeartbeats 4000000 in
theorem apart_bad4 {w : World} (id ep kd : Int) (s : ByteArray) (id' ep' kd' : Int) (s' : ByteArray) (hs : s.size ≤ 9223372036854775807) (hs2 : s'.size ≤ 9223372036854775807) (h1 : ¬ 232 < s.size) (h2 : okP 3 ep kd = true) (h3 : ¬ 232 < s'.size) (h4 : okP 7 ep' kd' = false) :
    Calls Try.prog 6 #[pageV id ep kd s, pageV id' ep' kd' s'] w fun e w' => e = .returned (.bool true) ∧ Below w.heap.size w w' := by
  have B0 := Lib.hid ((Blk.new w 23 #[.int .i64 id, .int .i64 ep, .int .i64 kd, .string s]).alloc (.cells #[.int .i64 id', .int .i64 ep', .int .i64 kd', .string s'] 23))
  have C0 := Blk.new (w.alloc (.cells #[.int .i64 id, .int .i64 ep, .int .i64 kd, .string s] 23)) 23 #[.int .i64 id', .int .i64 ep', .int .i64 kd', .string s']
  rw [asz] at C0
  have C0 := Lib.hid C0
  have O0 := Lib.hid (belowAlloc (belowAlloc (Below.refl w.heap.size w) (.cells #[.int .i64 id, .int .i64 ep, .int .i64 kd, .string s] 23)) (.cells #[.int .i64 id', .int .i64 ep', .int .i64 kd', .string s'] 23))
  have KA := Lib.hid awake11_any
  have KN := Lib.hid (fun w => new_yes 50 w (by omega) (by omega))
  obtain ⟨d1, hd1⟩ : ∃ d1, (pwriteF (D.zero 50) 50 3 ep kd s.data.toList).1 = d1 := ⟨_, rfl⟩
  obtain ⟨d2, hd2⟩ : ∃ d2, (pwriteF d1 50 7 ep' kd' s'.data.toList).1 = d2 := ⟨_, rfl⟩
  have hbd : d1.calls ≤ 4 ∧ d1.armed ≤ 9223372036854775807 := by
    have := pwrite_bd (D.zero 50) 50 3 ep kd s.data.toList (by show (0 : Int) ≤ _; omega)
    rw [hd1] at this
    exact ⟨by have h0 : (D.zero 50).calls = 0 := rfl; omega, this.2⟩
  have HW1 := Lib.hid (fun (w : World) (L : Dk.Loc) (h : DiskAt w L 50 (D.zero 50)) => by
    have h1 := pwrite_any h 3 ep kd s (by omega) (by show (0 : Int) ≤ _; omega) (by show (0 : Int) ≤ _; omega)
    rw [hd1] at h1
    exact h1)
  have HW2 := Lib.hid (fun (w : World) (L : Dk.Loc) (h : DiskAt w L 50 d1) => by
    have h1 := pwrite_any h 7 ep' kd' s' (by omega) (by omega) hbd.2
    rw [hd2] at h1
    exact h1)
  have hI : ¬ (232 : Int) < (s.size : Int) := by omega
  have hJ : ¬ (232 : Int) < (s'.size : Int) := by omega
  have KR1 := Lib.hid (fun w => rright_any (w := w) 3 ep kd s true h2)
  have KR2 := Lib.hid (fun w => rright_any (w := w) 7 ep' kd' s' false h4)
  clear hd1 hd2 hbd
  clear h2 h4
  unfold pageV dp at *
  go_enter Try.func6, Try.ntmps6
  go_wp2_with fail
  refine (KN.out _).mono ?_
  rintro e w1 ⟨L, rfl, dd, hb1, fr⟩
  have O1 := Lib.hid (bstep O0.out hb1)
  have B1 := B0.out.below hb1 B0.out.lt
  have C1 := C0.out.below hb1 C0.out.lt
  have hsz0 : w.heap.size + 2 ≤ w1.heap.size := by have := hb1.size; simp at this; omega
  have hfr : ∀ x ∈ L.fp, w.heap.size + 2 ≤ x := fun x hx => by have := fr x hx; simp at this; omega
  have zb := B1.frozen 0 (by simp)
  have zc := C1.frozen 0 (by simp)
  have cb := B1.cell_some (i := 0) rfl
  have cc := C1.cell_some (i := 0) rfl
  have cb1 := B1.cell_some (i := 1) rfl
  have cb2 := B1.cell_some (i := 2) rfl
  have cb3 := B1.cell_some (i := 3) rfl
  have cc1 := C1.cell_some (i := 1) rfl
  have cc2 := C1.cell_some (i := 2) rfl
  have cc3 := C1.cell_some (i := 3) rfl
  have ow := ((Only.refl [w.heap.size, w.heap.size + 1] w1).setCell (p := ⟨w.heap.size, 0, none⟩) (by simp) (.int .i64 3)).setCell (p := ⟨w.heap.size + 1, 0, none⟩) (by simp) (.int .i64 7)
  have D2 := Lib.hid (dd.only ow (fun x hx hm => by have := hfr x hx; simp at hm; omega))
  have O2 := Lib.hid (O1.out.trans (ow.below_of O1.out.size (by simp)))
  have B2 := Lib.hid ((B1.set_ 0 (.int .i64 3)).far (p := ⟨w.heap.size + 1, 0, none⟩) (by simp) (.int .i64 7))
  have C2 := Lib.hid ((C1.far (p := ⟨w.heap.size, 0, none⟩) (by simp) (.int .i64 3)).set_ 0 (.int .i64 7))
  have FR := Lib.hid hfr
  clear dd hb1 fr B1 C1 ow hfr B0 C0
  go_wp2_with fail
  generalize hwa : (w1.setCell ⟨w.heap.size, 0, none⟩ (.int .i64 3)).setCell ⟨w.heap.size + 1, 0, none⟩ (.int .i64 7) = wa at *
  have HWA := Lib.hid hwa
  clear hwa
  refine (HW1.out _ _ D2.out).mono ?_
  rintro e w2 ⟨rfl, dd, ow⟩
  have O3 := Lib.hid (O2.out.trans (ow.below_of O2.out.size (fun x hx => by have := FR.out x hx; omega)))
  have D3 := Lib.hid dd
  have B3 := Lib.hid (B2.out.only ow (fun hm => by have := FR.out _ hm; omega))
  have C3 := Lib.hid (C2.out.only ow (fun hm => by have := FR.out _ hm; omega))
  clear dd ow D2 O2 B2 C2 HW1 zb zc cb cc cb1 cb2 cb3 cc1 cc2 cc3 HWA
  have c0 := C3.out.cell_some (i := 0) rfl
  have c1 := C3.out.cell_some (i := 1) rfl
  have c2 := C3.out.cell_some (i := 2) rfl
  have c3 := C3.out.cell_some (i := 3) rfl
  go_wp2_with fail
  refine (HW2.out _ _ D3.out).mono ?_
  rintro e w3 ⟨rfl, dd, ow⟩
  have O4 := Lib.hid (O3.out.trans (ow.below_of O3.out.size (fun x hx => by have := FR.out x hx; omega)))
  have D4 := Lib.hid dd
  have B4 := Lib.hid (B3.out.only ow (fun hm => by have := FR.out _ hm; omega))
  have C4 := Lib.hid (C3.out.only ow (fun hm => by have := FR.out _ hm; omega))
  clear dd ow D3 O3 B3 C3 HW2 c0 c1 c2 c3
  have b0 := B4.out.cell_some (i := 0) rfl
  have b1 := B4.out.cell_some (i := 1) rfl
  have b2 := B4.out.cell_some (i := 2) rfl
  have b3 := B4.out.cell_some (i := 3) rfl
  have c0 := C4.out.cell_some (i := 0) rfl
  have c1 := C4.out.cell_some (i := 1) rfl
  have c2 := C4.out.cell_some (i := 2) rfl
  have c3 := C4.out.cell_some (i := 3) rfl
  go_wp2_with fail
  refine (KR1.out _).mono ?_
  rintro e w4 ⟨rfl, hbr⟩
  have O5 := Lib.hid (bstep O4.out hbr)
  have Bw4 := Lib.hid (B4.out.below hbr B4.out.lt)
  have Cw4 := Lib.hid (C4.out.below hbr C4.out.lt)
  clear hbr b0 b1 b2 b3 c0 c1 c2 c3
  have b0 := Bw4.out.cell_some (i := 0) rfl
  have b1 := Bw4.out.cell_some (i := 1) rfl
  have b2 := Bw4.out.cell_some (i := 2) rfl
  have b3 := Bw4.out.cell_some (i := 3) rfl
  have c0 := Cw4.out.cell_some (i := 0) rfl
  have c1 := Cw4.out.cell_some (i := 1) rfl
  have c2 := Cw4.out.cell_some (i := 2) rfl
  have c3 := Cw4.out.cell_some (i := 3) rfl
  go_wp2_with fail
  refine (KR2.out _).mono ?_
  rintro e w5 ⟨rfl, hbr⟩
  have O6 := Lib.hid (bstep O5.out hbr)
  have Bw5 := Lib.hid (Bw4.out.below hbr Bw4.out.lt)
  have Cw5 := Lib.hid (Cw4.out.below hbr Cw4.out.lt)
  clear hbr b0 b1 b2 b3 c0 c1 c2 c3
  have b0 := Bw5.out.cell_some (i := 0) rfl
  have b1 := Bw5.out.cell_some (i := 1) rfl
  have b2 := Bw5.out.cell_some (i := 2) rfl
  have b3 := Bw5.out.cell_some (i := 3) rfl
  have c0 := Cw5.out.cell_some (i := 0) rfl
  have c1 := Cw5.out.cell_some (i := 1) rfl
  have c2 := Cw5.out.cell_some (i := 2) rfl
  have c3 := Cw5.out.cell_some (i := 3) rfl
  go_wp2_with fail
  refine (KA.out _).mono ?_
  rintro e wz ⟨rfl, hbz⟩
  have OZ := Lib.hid (bstep O6.out hbz)
  clear hbz
  go_wp2_with fail
  go_ret
  exact ⟨by first | rfl | simp, OZ.out⟩
set_option maxRecDepth 100000 in
set_option maxHeartbeats 4000000 in
theorem apart_good {w : World} (id ep kd : Int) (s : ByteArray) (id' ep' kd' : Int) (s' : ByteArray) (h1 : ¬ 232 < s.size) (h2 : okP 3 ep kd = true) (h3 : ¬ 232 < s'.size) (h4 : okP 7 ep' kd' = true) :
    Calls Try.prog 6 #[pageV id ep kd s, pageV id' ep' kd' s'] w fun e w' => e = .returned (.bool true) ∧ Below w.heap.size w w' := by
  have B0 := Lib.hid ((Blk.new w 23 #[.int .i64 id, .int .i64 ep, .int .i64 kd, .string s]).alloc (.cells #[.int .i64 id', .int .i64 ep', .int .i64 kd', .string s'] 23))
  have C0 := Blk.new (w.alloc (.cells #[.int .i64 id, .int .i64 ep, .int .i64 kd, .string s] 23)) 23 #[.int .i64 id', .int .i64 ep', .int .i64 kd', .string s']
  rw [asz] at C0
  have C0 := Lib.hid C0
  have O0 := Lib.hid (belowAlloc (belowAlloc (Below.refl w.heap.size w) (.cells #[.int .i64 id, .int .i64 ep, .int .i64 kd, .string s] 23)) (.cells #[.int .i64 id', .int .i64 ep', .int .i64 kd', .string s'] 23))
  have KA := Lib.hid awake11_any
  have KN := Lib.hid (fun w => new_yes 50 w (by omega) (by omega))
  obtain ⟨d1, hd1⟩ : ∃ d1, (pwriteF (D.zero 50) 50 3 ep kd s.data.toList).1 = d1 := ⟨_, rfl⟩
  obtain ⟨d2, hd2⟩ : ∃ d2, (pwriteF d1 50 7 ep' kd' s'.data.toList).1 = d2 := ⟨_, rfl⟩
  have hbd : d1.calls ≤ 4 ∧ d1.armed ≤ 9223372036854775807 := by
    have := pwrite_bd (D.zero 50) 50 3 ep kd s.data.toList (by show (0 : Int) ≤ _; omega)
    rw [hd1] at this
    exact ⟨by have h0 : (D.zero 50).calls = 0 := rfl; omega, this.2⟩
  have HW1 := Lib.hid (fun (w : World) (L : Dk.Loc) (h : DiskAt w L 50 (D.zero 50)) => by
    have h1 := pwrite_any h 3 ep kd s (by omega) (by show (0 : Int) ≤ _; omega) (by show (0 : Int) ≤ _; omega)
    rw [hd1] at h1
    exact h1)
  have HW2 := Lib.hid (fun (w : World) (L : Dk.Loc) (h : DiskAt w L 50 d1) => by
    have h1 := pwrite_any h 7 ep' kd' s' (by omega) (by omega) hbd.2
    rw [hd2] at h1
    exact h1)
  have hI : ¬ (232 : Int) < (s.size : Int) := by omega
  have hJ : ¬ (232 : Int) < (s'.size : Int) := by omega
  have KR1 := Lib.hid (fun w => rright_any (w := w) 3 ep kd s true h2)
  have KR2 := Lib.hid (fun w => rright_any (w := w) 7 ep' kd' s' true h4)
  have hWR := write_read (zero_ok 50 (by omega)) rfl rfl 3 ep kd s.data.toList (by decide) h2 (by simp; omega)
  have hok1 := pwriteF_ok (zero_ok 50 (by omega)) 3 ep kd s.data.toList
  rw [show (((3 : Nat) : Int)) = 3 from rfl, hd1] at hWR
  rw [hd1] at hok1
  have hWS := write_read hok1 hWR.2.1 hWR.2.2.1 7 ep' kd' s'.data.toList (by decide) h4 (by simp; omega)
  rw [show (((7 : Nat) : Int)) = 7 from rfl, hd2] at hWS
  rw [hWR.1] at HW1
  rw [hWS.1] at HW2
  have KF1 := fun w => rfull_any s (by omega) w
  have KF2 := fun w => rfull_any s' (by omega) w
  obtain ⟨F1, hF1⟩ : ∃ F : ByteArray, (⟨(padL s.data.toList 232).toArray⟩ : ByteArray) = F := ⟨_, rfl⟩
  obtain ⟨F2, hF2⟩ : ∃ F : ByteArray, (⟨(padL s'.data.toList 232).toArray⟩ : ByteArray) = F := ⟨_, rfl⟩
  rw [hF1] at KF1
  rw [hF2] at KF2
  have KF1 := Lib.hid KF1
  have KF2 := Lib.hid KF2
  have HP1 := Lib.hid (fun (w : World) (L : Dk.Loc) (h : DiskAt w L 50 d2) => by
    have h1 := pread_any h 3
    have e1 : preadF d2 50 3 = (⟨3, ep, kd, padL s.data.toList 232⟩, 0) := (hWS.2.2.2.2 3 (by decide) (by decide)).trans hWR.2.2.2.1
    rw [e1] at h1
    unfold PG.val at h1
    dsimp only at h1
    rw [hF1] at h1
    exact h1)
  have HP2 := Lib.hid (fun (w : World) (L : Dk.Loc) (h : DiskAt w L 50 d2) => by
    have h1 := pread_any h 7
    have e1 : preadF d2 50 7 = (⟨7, ep', kd', padL s'.data.toList 232⟩, 0) := hWS.2.2.2.1
    rw [e1] at h1
    unfold PG.val at h1
    dsimp only at h1
    rw [hF2] at h1
    exact h1)
  clear hWR hWS hok1 hF1 hF2
  clear hd1 hd2 hbd
  clear h2 h4
  unfold pageV dp at *
  go_enter Try.func6, Try.ntmps6
  go_wp2_with fail
  refine (KN.out _).mono ?_
  rintro e w1 ⟨L, rfl, dd, hb1, fr⟩
  have O1 := Lib.hid (bstep O0.out hb1)
  have B1 := B0.out.below hb1 B0.out.lt
  have C1 := C0.out.below hb1 C0.out.lt
  have hsz0 : w.heap.size + 2 ≤ w1.heap.size := by have := hb1.size; simp at this; omega
  have hfr : ∀ x ∈ L.fp, w.heap.size + 2 ≤ x := fun x hx => by have := fr x hx; simp at this; omega
  have zb := B1.frozen 0 (by simp)
  have zc := C1.frozen 0 (by simp)
  have cb := B1.cell_some (i := 0) rfl
  have cc := C1.cell_some (i := 0) rfl
  have cb1 := B1.cell_some (i := 1) rfl
  have cb2 := B1.cell_some (i := 2) rfl
  have cb3 := B1.cell_some (i := 3) rfl
  have cc1 := C1.cell_some (i := 1) rfl
  have cc2 := C1.cell_some (i := 2) rfl
  have cc3 := C1.cell_some (i := 3) rfl
  have ow := ((Only.refl [w.heap.size, w.heap.size + 1] w1).setCell (p := ⟨w.heap.size, 0, none⟩) (by simp) (.int .i64 3)).setCell (p := ⟨w.heap.size + 1, 0, none⟩) (by simp) (.int .i64 7)
  have D2 := Lib.hid (dd.only ow (fun x hx hm => by have := hfr x hx; simp at hm; omega))
  have O2 := Lib.hid (O1.out.trans (ow.below_of O1.out.size (by simp)))
  have B2 := Lib.hid ((B1.set_ 0 (.int .i64 3)).far (p := ⟨w.heap.size + 1, 0, none⟩) (by simp) (.int .i64 7))
  have C2 := Lib.hid ((C1.far (p := ⟨w.heap.size, 0, none⟩) (by simp) (.int .i64 3)).set_ 0 (.int .i64 7))
  have FR := Lib.hid hfr
  clear dd hb1 fr B1 C1 ow hfr B0 C0
  go_wp2_with fail
  generalize hwa : (w1.setCell ⟨w.heap.size, 0, none⟩ (.int .i64 3)).setCell ⟨w.heap.size + 1, 0, none⟩ (.int .i64 7) = wa at *
  have HWA := Lib.hid hwa
  clear hwa
  refine (HW1.out _ _ D2.out).mono ?_
  rintro e w2 ⟨rfl, dd, ow⟩
  have O3 := Lib.hid (O2.out.trans (ow.below_of O2.out.size (fun x hx => by have := FR.out x hx; omega)))
  have D3 := Lib.hid dd
  have B3 := Lib.hid (B2.out.only ow (fun hm => by have := FR.out _ hm; omega))
  have C3 := Lib.hid (C2.out.only ow (fun hm => by have := FR.out _ hm; omega))
  clear dd ow D2 O2 B2 C2 HW1 zb zc cb cc cb1 cb2 cb3 cc1 cc2 cc3 HWA
  have c0 := C3.out.cell_some (i := 0) rfl
  have c1 := C3.out.cell_some (i := 1) rfl
  have c2 := C3.out.cell_some (i := 2) rfl
  have c3 := C3.out.cell_some (i := 3) rfl
  go_wp2_with fail
  refine (HW2.out _ _ D3.out).mono ?_
  rintro e w3 ⟨rfl, dd, ow⟩
  have O4 := Lib.hid (O3.out.trans (ow.below_of O3.out.size (fun x hx => by have := FR.out x hx; omega)))
  have D4 := Lib.hid dd
  have B4 := Lib.hid (B3.out.only ow (fun hm => by have := FR.out _ hm; omega))
  have C4 := Lib.hid (C3.out.only ow (fun hm => by have := FR.out _ hm; omega))
  clear dd ow D3 O3 B3 C3 HW2 c0 c1 c2 c3
  have b0 := B4.out.cell_some (i := 0) rfl
  have b1 := B4.out.cell_some (i := 1) rfl
  have b2 := B4.out.cell_some (i := 2) rfl
  have b3 := B4.out.cell_some (i := 3) rfl
  have c0 := C4.out.cell_some (i := 0) rfl
  have c1 := C4.out.cell_some (i := 1) rfl
  have c2 := C4.out.cell_some (i := 2) rfl
  have c3 := C4.out.cell_some (i := 3) rfl
  go_wp2_with fail
  refine (KR1.out _).mono ?_
  rintro e w4 ⟨rfl, hbr⟩
  have O5 := Lib.hid (bstep O4.out hbr)
  have Bw4 := Lib.hid (B4.out.below hbr B4.out.lt)
  have Cw4 := Lib.hid (C4.out.below hbr C4.out.lt)
  have OR1 := Lib.hid hbr
  clear hbr b0 b1 b2 b3 c0 c1 c2 c3
  have b0 := Bw4.out.cell_some (i := 0) rfl
  have b1 := Bw4.out.cell_some (i := 1) rfl
  have b2 := Bw4.out.cell_some (i := 2) rfl
  have b3 := Bw4.out.cell_some (i := 3) rfl
  have c0 := Cw4.out.cell_some (i := 0) rfl
  have c1 := Cw4.out.cell_some (i := 1) rfl
  have c2 := Cw4.out.cell_some (i := 2) rfl
  have c3 := Cw4.out.cell_some (i := 3) rfl
  go_wp2_with fail
  refine (KR2.out _).mono ?_
  rintro e w5 ⟨rfl, hbr⟩
  have O6 := Lib.hid (bstep O5.out hbr)
  have Bw5 := Lib.hid (Bw4.out.below hbr Bw4.out.lt)
  have Cw5 := Lib.hid (Cw4.out.below hbr Cw4.out.lt)
  have OR2 := Lib.hid hbr
  clear hbr b0 b1 b2 b3 c0 c1 c2 c3
  have b0 := Bw5.out.cell_some (i := 0) rfl
  have b1 := Bw5.out.cell_some (i := 1) rfl
  have b2 := Bw5.out.cell_some (i := 2) rfl
  have b3 := Bw5.out.cell_some (i := 3) rfl
  have c0 := Cw5.out.cell_some (i := 0) rfl
  have c1 := Cw5.out.cell_some (i := 1) rfl
  have c2 := Cw5.out.cell_some (i := 2) rfl
  have c3 := Cw5.out.cell_some (i := 3) rfl
  clear b0 b1 b2 b3 c0 c1 c2 c3
  have D6 := Lib.hid ((D4.out.below OR1.out).below OR2.out)
  go_wp2_with fail
  refine (HP1.out _ _ D6.out).mono ?_
  rintro e w6 ⟨rfl, hb6⟩
  have O7 := Lib.hid (belowAlloc (bstep O6.out hb6) (.cells #[.int .i64 3, .int .i64 ep, .int .i64 kd, .string F1] 23))
  have B7 := Lib.hid ((Bw5.out.below hb6 Bw5.out.lt).alloc (.cells #[.int .i64 3, .int .i64 ep, .int .i64 kd, .string F1] 23))
  have C7 := Lib.hid ((Cw5.out.below hb6 Cw5.out.lt).alloc (.cells #[.int .i64 3, .int .i64 ep, .int .i64 kd, .string F1] 23))
  have X7 := Lib.hid (Blk.new w6 23 #[.int .i64 3, .int .i64 ep, .int .i64 kd, .string F1])
  have D7 := Lib.hid ((D6.out.below hb6).below (belowAlloc (Below.refl _ _) (.cells #[.int .i64 3, .int .i64 ep, .int .i64 kd, .string F1] 23)))
  clear hb6
  go_wp2_with fail
  generalize hw7 : w6.alloc (.cells #[.int .i64 3, .int .i64 ep, .int .i64 kd, .string F1] 23) = w7 at *
  clear hw7
  refine (HP2.out _ _ D7.out).mono ?_
  rintro e w8 ⟨rfl, hb8⟩
  have O9 := Lib.hid (belowAlloc (bstep O7.out hb8) (.cells #[.int .i64 7, .int .i64 ep', .int .i64 kd', .string F2] 23))
  have B9 := Lib.hid ((B7.out.below hb8 B7.out.lt).alloc (.cells #[.int .i64 7, .int .i64 ep', .int .i64 kd', .string F2] 23))
  have C9 := Lib.hid ((C7.out.below hb8 C7.out.lt).alloc (.cells #[.int .i64 7, .int .i64 ep', .int .i64 kd', .string F2] 23))
  have X9 := Lib.hid ((X7.out.below hb8 X7.out.lt).alloc (.cells #[.int .i64 7, .int .i64 ep', .int .i64 kd', .string F2] 23))
  have Y9 := Lib.hid (Blk.new w8 23 #[.int .i64 7, .int .i64 ep', .int .i64 kd', .string F2])
  clear hb8
  go_wp2_with fail
  generalize hw9 : w8.alloc (.cells #[.int .i64 7, .int .i64 ep', .int .i64 kd', .string F2] 23) = w9 at *
  clear hw9
  have HK := Lib.hid (show ∀ W', Below w9.heap.size w9 W' → (W'.cell? ⟨w.heap.size, 3, none⟩ = some (.string s) ∧ W'.cell? ⟨w.heap.size + 1, 3, none⟩ = some (.string s') ∧ W'.cell? ⟨w6.heap.size, 3, none⟩ = some (.string F1) ∧ W'.cell? ⟨w8.heap.size, 3, none⟩ = some (.string F2)) from fun W' hb => by
    exact ⟨(B9.out.below hb B9.out.lt).cell_some (i := 3) rfl, (C9.out.below hb C9.out.lt).cell_some (i := 3) rfl, (X9.out.below hb X9.out.lt).cell_some (i := 3) rfl, (Y9.out.below hb Y9.out.lt).cell_some (i := 3) rfl⟩)
  have OD := Lib.hid (show Below w9.heap.size w9 w9.drew from (Below.refl _ _).drew)
  refine wp_region_held_drew (S := fun W' => W'.cell? ⟨w.heap.size, 3, none⟩ = some (.string s) ∧ W'.cell? ⟨w.heap.size + 1, 3, none⟩ = some (.string s') ∧ W'.cell? ⟨w6.heap.size, 3, none⟩ = some (.string F1) ∧ W'.cell? ⟨w8.heap.size, 3, none⟩ = some (.string F2)) (by kernel_rfl) (HK.out _ OD.out) (fun hHeld => ?_)
  refine wpAnyH_ready (rs := [0]) (by kernel_rfl) (by simp) ?_
  refine AllReadyH.cons (o := ⟨some 56, _, _, _, _, _⟩) rfl (fun K hK => ?_) AllReadyH.nil
  go_simp
  go_at_call 11
  refine (KA.out _).mono ?_
  rintro e v1 ⟨rfl, hv1⟩
  have Z1 := Lib.hid (bstep OD.out hv1)
  clear hv1
  go_simp
  refine hK.out _ _ (HK.out _ Z1.out) (fun hHeld => ?_)
  try simp only [Act.put, List.setIfInBounds_toArray, List.set_cons_zero, List.set_cons_succ]
  refine wpAnyH_take (i := 1) (oi := ⟨some 57, _, _, _, _, _⟩) (v := ?_) rfl (by kernel_rfl) (by kernel_rfl) (by kernel_rfl) (fun _ _ _ h => h) (Or.inl ⟨by kernel_rfl, ?_⟩) (by assumption) ?_
  rotate_left
  · (intro w hSw; (try dsimp only at hSw); go_simp; (try (with_reducible rfl)))
  try simp only [Act.put, List.setIfInBounds_toArray, List.set_cons_zero, List.set_cons_succ]
  refine wpAnyH_take (i := 2) (oi := ⟨some 58, _, _, _, _, _⟩) (v := ?_) rfl (by kernel_rfl) (by kernel_rfl) (by kernel_rfl) (fun _ _ _ h => h) (Or.inl ⟨by kernel_rfl, ?_⟩) (by assumption) ?_
  rotate_left
  · (intro w hSw; (try dsimp only at hSw); go_simp; (try (with_reducible rfl)))
  try simp only [Act.put, List.setIfInBounds_toArray, List.set_cons_zero, List.set_cons_succ]
  refine wpAnyH_take (i := 3) (oi := ⟨some 59, _, _, _, _, _⟩) (v := ?_) rfl (by kernel_rfl) (by kernel_rfl) (by kernel_rfl) (fun _ _ _ h => h) (Or.inl ⟨by kernel_rfl, ?_⟩) (by assumption) ?_
  rotate_left
  · (intro w hSw; (try dsimp only at hSw); go_simp; (try (with_reducible rfl)))
  try simp only [Act.put, List.setIfInBounds_toArray, List.set_cons_zero, List.set_cons_succ]
  refine wpAnyH_take (i := 4) (oi := ⟨some 60, _, _, _, _, _⟩) (v := ?_) rfl (by kernel_rfl) (by kernel_rfl) (by kernel_rfl) (fun _ _ _ h => h) (Or.inl ⟨by kernel_rfl, ?_⟩) (by assumption) ?_
  rotate_left
  · (intro w hSw; (try dsimp only at hSw); go_simp; (try (with_reducible rfl)))
  try simp only [Act.put, List.setIfInBounds_toArray, List.set_cons_zero, List.set_cons_succ]
  refine wpAnyH_take (i := 5) (oi := ⟨some 61, _, _, _, _, _⟩) (v := ?_) rfl (by kernel_rfl) (by kernel_rfl) (by kernel_rfl) (fun _ _ _ h => h) (Or.inl ⟨by kernel_rfl, ?_⟩) (by assumption) ?_
  rotate_left
  · (intro w hSw; (try dsimp only at hSw); go_simp; (try (with_reducible rfl)))
  try simp only [Act.put, List.setIfInBounds_toArray, List.set_cons_zero, List.set_cons_succ]
  refine wpAnyH_take (i := 6) (oi := ⟨some 62, _, _, _, _, _⟩) (v := ?_) rfl (by kernel_rfl) (by kernel_rfl) (by kernel_rfl) (fun _ _ _ h => h) (Or.inl ⟨by kernel_rfl, ?_⟩) (by assumption) ?_
  rotate_left
  · (intro w hSw; (try dsimp only at hSw); go_simp; (try (with_reducible rfl)))
  try simp only [Act.put, List.setIfInBounds_toArray, List.set_cons_zero, List.set_cons_succ]
  refine wpAnyH_take (i := 7) (oi := ⟨some 63, _, _, _, _, _⟩) (v := ?_) rfl (by kernel_rfl) (by kernel_rfl) (by kernel_rfl) (fun _ _ _ h => h) (Or.inl ⟨by kernel_rfl, ?_⟩) (by assumption) ?_
  rotate_left
  · (intro w hSw; (try dsimp only at hSw); go_simp; (try (with_reducible rfl)))
  try simp only [Act.put, List.setIfInBounds_toArray, List.set_cons_zero, List.set_cons_succ]
  refine wpAnyH_take (i := 8) (oi := ⟨some 64, _, _, _, _, _⟩) (v := ?_) rfl (by kernel_rfl) (by kernel_rfl) (by kernel_rfl) (fun _ _ _ h => h) (Or.inl ⟨by kernel_rfl, ?_⟩) (by assumption) ?_
  rotate_left
  · (intro w hSw; (try dsimp only at hSw); go_simp; (try (with_reducible rfl)))
  try simp only [Act.put, List.setIfInBounds_toArray, List.set_cons_zero, List.set_cons_succ]
  refine wpAnyH_take (i := 9) (oi := ⟨some 65, _, _, _, _, _⟩) (v := ?_) rfl (by kernel_rfl) (by kernel_rfl) (by kernel_rfl) (fun _ _ _ h => h) (Or.inl ⟨by kernel_rfl, ?_⟩) (by assumption) ?_
  rotate_left
  · (intro w hSw; (try dsimp only at hSw); go_simp; (try (with_reducible rfl)))
  try simp only [Act.put, List.setIfInBounds_toArray, List.set_cons_zero, List.set_cons_succ]
  refine wpAnyH_take (i := 10) (oi := ⟨some 66, _, _, _, _, _⟩) (v := ?_) rfl (by kernel_rfl) (by kernel_rfl) (by kernel_rfl) (fun _ _ _ h => h) (Or.inl ⟨by kernel_rfl, ?_⟩) (by assumption) ?_
  rotate_left
  · (intro w hSw; (try dsimp only at hSw); go_simp; (try (with_reducible rfl)))
  try simp only [Act.put, List.setIfInBounds_toArray, List.set_cons_zero, List.set_cons_succ]
  refine wpAnyH_take (i := 11) (oi := ⟨some 67, _, _, _, _, _⟩) (v := ?_) rfl (by kernel_rfl) (by kernel_rfl) (by kernel_rfl) (fun _ _ _ h => h) (Or.inl ⟨by kernel_rfl, ?_⟩) (by assumption) ?_
  rotate_left
  · (intro w hSw; (try dsimp only at hSw); go_simp; (try (with_reducible rfl)))
  try simp only [Act.put, List.setIfInBounds_toArray, List.set_cons_zero, List.set_cons_succ]
  refine wpAnyH_take (i := 12) (oi := ⟨some 68, _, _, _, _, _⟩) (v := ?_) rfl (by kernel_rfl) (by kernel_rfl) (by kernel_rfl) (fun _ _ _ h => h) (Or.inl ⟨by kernel_rfl, ?_⟩) (by assumption) ?_
  rotate_left
  · (intro w hSw; (try dsimp only at hSw); go_simp; (try (with_reducible rfl)))
  try simp only [Act.put, List.setIfInBounds_toArray, List.set_cons_zero, List.set_cons_succ]
  refine wpAnyH_take (i := 13) (oi := ⟨some 69, _, _, _, _, _⟩) (v := ?_) rfl (by kernel_rfl) (by kernel_rfl) (by kernel_rfl) (fun _ _ _ h => h) (Or.inl ⟨by kernel_rfl, ?_⟩) (by assumption) ?_
  rotate_left
  · (intro w hSw; (try dsimp only at hSw); go_simp; (try (with_reducible rfl)))
  try simp only [Act.put, List.setIfInBounds_toArray, List.set_cons_zero, List.set_cons_succ]
  refine wpAnyH_take (i := 14) (oi := ⟨some 70, _, _, _, _, _⟩) (v := ?_) rfl (by kernel_rfl) (by kernel_rfl) (by kernel_rfl) (fun _ _ _ h => h) (Or.inl ⟨by kernel_rfl, ?_⟩) (by assumption) ?_
  rotate_left
  · (intro w hSw; (try dsimp only at hSw); go_simp; (try (with_reducible rfl)))
  try simp only [Act.put, List.setIfInBounds_toArray, List.set_cons_zero, List.set_cons_succ]
  refine wpAnyH_take (i := 15) (oi := ⟨some 71, _, _, _, _, _⟩) (v := ?_) rfl (by kernel_rfl) (by kernel_rfl) (by kernel_rfl) (fun _ _ _ h => h) (Or.inl ⟨by kernel_rfl, ?_⟩) (by assumption) ?_
  rotate_left
  · (intro w hSw; (try dsimp only at hSw); go_simp; (try (with_reducible rfl)))
  try simp only [Act.put, List.setIfInBounds_toArray, List.set_cons_zero, List.set_cons_succ]
  refine wpAnyH_take (i := 16) (oi := ⟨some 72, _, _, _, _, _⟩) (v := ?_) rfl (by kernel_rfl) (by kernel_rfl) (by kernel_rfl) (fun _ _ _ h => h) (Or.inl ⟨by kernel_rfl, ?_⟩) (by assumption) ?_
  rotate_left
  · (intro w hSw; (try dsimp only at hSw); go_simp; (try (with_reducible rfl)))
  try simp only [Act.put, List.setIfInBounds_toArray, List.set_cons_zero, List.set_cons_succ]
  refine wpAnyH_take (i := 17) (oi := ⟨some 73, _, _, _, _, _⟩) (v := ?_) rfl (by kernel_rfl) (by kernel_rfl) (by kernel_rfl) (fun _ _ _ h => h) (Or.inl ⟨by kernel_rfl, ?_⟩) (by assumption) ?_
  rotate_left
  · (intro w hSw; (try dsimp only at hSw); go_simp; (try (with_reducible rfl)))
  try simp only [Act.put, List.setIfInBounds_toArray, List.set_cons_zero, List.set_cons_succ]
  refine wpAnyH_take (i := 18) (oi := ⟨some 74, _, _, _, _, _⟩) (v := ?_) rfl (by kernel_rfl) (by kernel_rfl) (by kernel_rfl) (fun _ _ _ h => h) (Or.inl ⟨by kernel_rfl, ?_⟩) (by assumption) ?_
  rotate_left
  · (intro w hSw; (try dsimp only at hSw); go_simp; (try (with_reducible rfl)))
  try simp only [Act.put, List.setIfInBounds_toArray, List.set_cons_zero, List.set_cons_succ]
  refine wpAnyH_take (i := 19) (oi := ⟨some 75, _, _, _, _, _⟩) (v := ?_) rfl (by kernel_rfl) (by kernel_rfl) (by kernel_rfl) (fun _ _ _ h => h) (Or.inl ⟨by kernel_rfl, ?_⟩) (by assumption) ?_
  rotate_left
  · (intro w hSw; (try dsimp only at hSw); go_simp; (try (with_reducible rfl)))
  try simp only [Act.put, List.setIfInBounds_toArray, List.set_cons_zero, List.set_cons_succ]
  refine wpAnyH_take (i := 20) (oi := ⟨some 76, _, _, _, _, _⟩) (v := ?_) rfl (by kernel_rfl) (by kernel_rfl) (by kernel_rfl) (fun _ _ _ h => h) (Or.inl ⟨by kernel_rfl, ?_⟩) (by assumption) ?_
  rotate_left
  · (intro w hSw; (try dsimp only at hSw); go_simp; (try (with_reducible rfl)))
  try simp only [Act.put, List.setIfInBounds_toArray, List.set_cons_zero, List.set_cons_succ]
  refine wpAnyH_take (i := 21) (oi := ⟨some 77, _, _, _, _, _⟩) (v := ?_) rfl (by kernel_rfl) (by kernel_rfl) (by kernel_rfl) (fun _ _ _ h => h) (Or.inl ⟨by kernel_rfl, ?_⟩) (by assumption) ?_
  rotate_left
  · (intro w hSw; (try dsimp only at hSw); go_simp; (try (with_reducible rfl)))
  try simp only [Act.put, List.setIfInBounds_toArray, List.set_cons_zero, List.set_cons_succ]
  refine wpAnyH_ready (rs := [22]) (by kernel_rfl) (by simp) ?_
  refine AllReadyH.cons (o := ⟨some 78, _, _, _, _, _⟩) rfl (fun K hK => ?_) AllReadyH.nil
  go_simp
  go_at_call 14
  refine (KF1.out _).mono ?_
  rintro e v2 ⟨rfl, hv2⟩
  have Z2 := Lib.hid (bstep Z1.out hv2)
  clear hv2
  go_simp
  refine hK.out _ _ (HK.out _ Z2.out) (fun hHeld => ?_)
  try simp only [Act.put, List.setIfInBounds_toArray, List.set_cons_zero, List.set_cons_succ]
  refine wpAnyH_take (i := 23) (oi := ⟨some 79, _, _, _, _, _⟩) (v := ?_) rfl (by kernel_rfl) (by kernel_rfl) (by kernel_rfl) (fun _ _ _ h => h) (Or.inl ⟨by kernel_rfl, ?_⟩) (by assumption) ?_
  rotate_left
  · (intro w hSw; (try dsimp only at hSw); go_simp; (try (with_reducible rfl)))
  try simp only [Act.put, List.setIfInBounds_toArray, List.set_cons_zero, List.set_cons_succ]
  refine wpAnyH_take (i := 24) (oi := ⟨some 80, _, _, _, _, _⟩) (v := ?_) rfl (by kernel_rfl) (by kernel_rfl) (by kernel_rfl) (fun _ _ _ h => h) (Or.inl ⟨by kernel_rfl, ?_⟩) (by assumption) ?_
  rotate_left
  · (intro w hSw; (try dsimp only at hSw); go_simp; (try (with_reducible rfl)))
  try simp only [Act.put, List.setIfInBounds_toArray, List.set_cons_zero, List.set_cons_succ]
  refine wpAnyH_take (i := 25) (oi := ⟨some 81, _, _, _, _, _⟩) (v := ?_) rfl (by kernel_rfl) (by kernel_rfl) (by kernel_rfl) (fun _ _ _ h => h) (Or.inl ⟨by kernel_rfl, ?_⟩) (by assumption) ?_
  rotate_left
  · (intro w hSw; (try dsimp only at hSw); go_simp; (try (with_reducible rfl)))
  try simp only [Act.put, List.setIfInBounds_toArray, List.set_cons_zero, List.set_cons_succ]
  refine wpAnyH_take (i := 26) (oi := ⟨some 82, _, _, _, _, _⟩) (v := ?_) rfl (by kernel_rfl) (by kernel_rfl) (by kernel_rfl) (fun _ _ _ h => h) (Or.inl ⟨by kernel_rfl, ?_⟩) (by assumption) ?_
  rotate_left
  · (intro w hSw; (try dsimp only at hSw); go_simp; (try (with_reducible rfl)))
  try simp only [Act.put, List.setIfInBounds_toArray, List.set_cons_zero, List.set_cons_succ]
  refine wpAnyH_take (i := 27) (oi := ⟨some 83, _, _, _, _, _⟩) (v := ?_) rfl (by kernel_rfl) (by kernel_rfl) (by kernel_rfl) (fun _ _ _ h => h) (Or.inl ⟨by kernel_rfl, ?_⟩) (by assumption) ?_
  rotate_left
  · (intro w hSw; (try dsimp only at hSw); go_simp; (try (with_reducible rfl)))
  try simp only [Act.put, List.setIfInBounds_toArray, List.set_cons_zero, List.set_cons_succ]
  refine wpAnyH_take (i := 28) (oi := ⟨some 84, _, _, _, _, _⟩) (v := ?_) rfl (by kernel_rfl) (by kernel_rfl) (by kernel_rfl) (fun _ _ _ h => h) (Or.inl ⟨by kernel_rfl, ?_⟩) (by assumption) ?_
  rotate_left
  · (intro w hSw; (try dsimp only at hSw); go_simp; (try (with_reducible rfl)))
  try simp only [Act.put, List.setIfInBounds_toArray, List.set_cons_zero, List.set_cons_succ]
  refine wpAnyH_take (i := 29) (oi := ⟨some 85, _, _, _, _, _⟩) (v := ?_) rfl (by kernel_rfl) (by kernel_rfl) (by kernel_rfl) (fun _ _ _ h => h) (Or.inl ⟨by kernel_rfl, ?_⟩) (by assumption) ?_
  rotate_left
  · (intro w hSw; (try dsimp only at hSw); go_simp; (try (with_reducible rfl)))
  try simp only [Act.put, List.setIfInBounds_toArray, List.set_cons_zero, List.set_cons_succ]
  refine wpAnyH_ready (rs := [30]) (by kernel_rfl) (by simp) ?_
  refine AllReadyH.cons (o := ⟨some 86, _, _, _, _, _⟩) rfl (fun K hK => ?_) AllReadyH.nil
  go_simp
  go_at_call 14
  refine (KF2.out _).mono ?_
  rintro e v3 ⟨rfl, hv3⟩
  have Z3 := Lib.hid (bstep Z2.out hv3)
  clear hv3
  go_simp
  refine hK.out _ _ (HK.out _ Z3.out) (fun hHeld => ?_)
  try simp only [Act.put, List.setIfInBounds_toArray, List.set_cons_zero, List.set_cons_succ]
  refine wpAnyH_take (i := 31) (oi := ⟨some 87, _, _, _, _, _⟩) (v := ?_) rfl (by kernel_rfl) (by kernel_rfl) (by kernel_rfl) (fun _ _ _ h => h) (Or.inl ⟨by kernel_rfl, ?_⟩) (by assumption) ?_
  rotate_left
  · (intro w hSw; (try dsimp only at hSw); go_simp; (try (with_reducible rfl)))
  try simp only [Act.put, List.setIfInBounds_toArray, List.set_cons_zero, List.set_cons_succ]
  refine wpAnyH_take (i := 32) (oi := ⟨some 88, _, _, _, _, _⟩) (v := ?_) rfl (by kernel_rfl) (by kernel_rfl) (by kernel_rfl) (fun _ _ _ h => h) (Or.inl ⟨by kernel_rfl, ?_⟩) (by assumption) ?_
  rotate_left
  · (intro w hSw; (try dsimp only at hSw); go_simp; (try (with_reducible rfl)))
  try simp only [Act.put, List.setIfInBounds_toArray, List.set_cons_zero, List.set_cons_succ]
  refine wpAnyH_take (i := 33) (oi := ⟨some 4, _, _, _, _, _⟩) (v := ?_) rfl (by kernel_rfl) (by kernel_rfl) (by kernel_rfl) (fun _ _ _ h => h) (Or.inl ⟨by kernel_rfl, ?_⟩) (by assumption) ?_
  rotate_left
  · (intro w hSw; (try dsimp only at hSw); go_simp; (try (with_reducible rfl)))
  try simp only [Act.put, List.setIfInBounds_toArray, List.set_cons_zero, List.set_cons_succ]
  refine wpAnyH_done (by kernel_rfl) ?_ _
  have OZ := Lib.hid (bstep O9.out Z3.out)
  go_wp2_with fail
  go_ret
  exact ⟨by first | rfl | simp, OZ.out⟩
theorem apart_any {w : World} (id ep kd : Int) (s : ByteArray) (id' ep' kd' : Int) (s' : ByteArray) (hs : s.size ≤ maxLen) (hs2 : s'.size ≤ maxLen) :
    Calls Try.prog 6 #[pageV id ep kd s, pageV id' ep' kd' s'] w fun e w' => e = .returned (.bool true) ∧ Below w.heap.size w w' := by
  unfold maxLen at hs hs2
  by_cases h1 : 232 < s.size
  · exact apart_bad1 id ep kd s id' ep' kd' s' (by omega) (by omega) h1
  by_cases h2 : okP 3 ep kd = true
  · by_cases h3 : 232 < s'.size
    · exact apart_bad3 id ep kd s id' ep' kd' s' (by omega) (by omega) h1 h2 h3
    · by_cases h4 : okP 7 ep' kd' = true
      · exact apart_good id ep kd s id' ep' kd' s' h1 h2 h3 h4
      · exact apart_bad4 id ep kd s id' ep' kd' s' (by omega) (by omega) h1 h2 h3 (by simpa using h4)
  · exact apart_bad2 id ep kd s id' ep' kd' s' (by omega) (by omega) h1 (by simpa using h2)
end Go.Proofs.Ytmofbgcanehdoaa.Pg
