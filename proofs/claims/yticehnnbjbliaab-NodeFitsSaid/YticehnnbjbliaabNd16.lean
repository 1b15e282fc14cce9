/- nodes: Get. -/
import Derived.Test.YticehnnbjbliaabNd12
import Derived.Test.YticehnnbjbliaabNd9
namespace Go.Proofs.Yticehnnbjbliaab.Nd
open Go.RowKit Sl
attribute [local go_sem ↓] Go.wp_at_zero Go.wp_at_succ exec_app
/-- what records say -/
def leafR (rs : List (List UInt8)) : Bool := decide (rs.head? = some [1])
def readE (rs : List (List UInt8)) : List E := rs.tail.map fun r => entryE ⟨r.toArray⟩
def ReadOk (rs : List (List UInt8)) : Prop := (rs.head? = some [1] ∨ rs.head? = some [2]) ∧ (∀ r ∈ rs.tail, entryOk ⟨r.toArray⟩) ∧ mayP (readE rs) (leafR rs)
/-- what Get tells of records -/
def GotOf (rs : List (List UInt8)) (w : World) (e : Ending) (w' : World) : Prop :=
  ((¬ ReadOk rs ∧ e = .returned (.tuple #[nodeV false none 0 0, .int .i64 14])) ∨
   (ReadOk rs ∧ ∃ A n c, e = .returned (.tuple #[nodeV (leafR rs) A n c, .int .i64 0]) ∧ Slc w' 56 3 (.slice A n c) n (ents (readE rs)) ∧ Hid (∀ g ∈ ownB (.slice A n c), w.heap.size ≤ g))) ∧ Below w.heap.size w w'
set_option maxRecDepth 100000 in
set_option maxHeartbeats 3000000 in
theorem got_nil (s : ByteArray) (w : World) (hs : s.size ≤ 1000000) (hq : checkF s.data.toList = 0) (hrs : recs s.data.toList = []) :
    Calls Try.prog 18 #[.string s] w (GotOf ([]) w) := by
  have B0 := Blk.new w 32 #[.bool false, .slice none 0 0]
  have O0 := belowAlloc (Below.refl w.heap.size w) (.cells #[.bool false, .slice none 0 0] 32)
  have KA := Lib.hid (all_any s (w.alloc (.cells #[.bool false, .slice none 0 0] 32)) hs)
  unfold GotOf nodeV
  have O0 := Lib.hid O0
  have B0 := Lib.hid B0
  have hS := (checkF_ok _).1 hq
  have hm := recs_many hS
  have hsm := Lib.hid (recs_small hS)
  have hN := recs_length s.data.toList
  obtain ⟨N, hN2⟩ : ∃ N, at2 s.data.toList 0 = N := ⟨_, rfl⟩
  unfold AllTold at KA
  rw [hq, hrs, hN2] at KA
  rw [hrs, hN2] at hN
  rw [hrs] at hm hsm
  clear hS hq hrs hN2
  go_enter Try.func18, Try.ntmps18
  go_wp2_with fail
  refine KA.out.mono ?_
  rintro e w1 ⟨v, rfl, hb1, fr, hv⟩
  have S1 : Slc w1 9 1 v N (strs []) := hv.elim (fun h => h.2) (fun h => absurd rfl h.1)
  have hg1 : ∀ x ∈ ownB v, w.heap.size + 1 ≤ x := fun x hx => by have := fr x hx; rw [asz] at this; exact this
  obtain ⟨V1, vc1, rfl⟩ := slc_val S1
  have O1 := Lib.hid (bstep O0.out hb1)
  have B1 := Lib.hid (B0.out.below hb1 B0.out.lt)
  have f0 : w1.frozen? ⟨w.heap.size, 0, none⟩ = false := B1.out.frozen 0 (by simp)
  have f1 : w1.frozen? ⟨w.heap.size, 1, none⟩ = false := B1.out.frozen 1 (by simp)
  have z0 : w1.cell? ⟨w.heap.size, 0, none⟩ = some (.bool false) := B1.out.cell_some (i := 0) rfl
  have z1 : w1.cell? ⟨w.heap.size, 1, none⟩ = some (.slice none 0 0) := B1.out.cell_some (i := 1) rfl
  have BZ := Lib.hid ((B1.out.set_ 0 (.bool false)).set_ 1 (.slice none 0 0))
  have OZ := Lib.hid (((((Only.of_below (S := []) O1.out).setCell (p := ⟨w.heap.size, 0, none⟩) (fun h => absurd h (by simp)) (.bool false)).setCell (p := ⟨w.heap.size, 1, none⟩) (fun h => absurd h (by simp)) (.slice none 0 0))).below_nil)
  clear fr hb1 hv
  obtain rfl : N = 0 := by simpa using hN.symm
  go_wp2_with fail
  exact bodyPost_ret (ret_node2 rfl rfl BZ.out) rfl ⟨.inl ⟨by simp [ReadOk], rfl⟩, OZ.out⟩
set_option maxRecDepth 100000 in
set_option maxHeartbeats 3000000 in
theorem got_odd (s : ByteArray) (w : World) (hs : s.size ≤ 1000000) (hq : checkF s.data.toList = 0) (r0 : List UInt8) (rest : List (List UInt8)) (h1 : ¬ r0 = [1]) (h2 : ¬ r0 = [2]) (hrs : recs s.data.toList = r0 :: rest) :
    Calls Try.prog 18 #[.string s] w (GotOf (r0 :: rest) w) := by
  have B0 := Blk.new w 32 #[.bool false, .slice none 0 0]
  have O0 := belowAlloc (Below.refl w.heap.size w) (.cells #[.bool false, .slice none 0 0] 32)
  have KA := Lib.hid (all_any s (w.alloc (.cells #[.bool false, .slice none 0 0] 32)) hs)
  unfold GotOf nodeV
  have O0 := Lib.hid O0
  have B0 := Lib.hid B0
  have hS := (checkF_ok _).1 hq
  have hm := recs_many hS
  have hsm := Lib.hid (recs_small hS)
  have hN := recs_length s.data.toList
  obtain ⟨N, hN2⟩ : ∃ N, at2 s.data.toList 0 = N := ⟨_, rfl⟩
  unfold AllTold at KA
  rw [hq, hrs, hN2] at KA
  rw [hrs, hN2] at hN
  rw [hrs] at hm hsm
  clear hS hq hrs hN2
  go_enter Try.func18, Try.ntmps18
  go_wp2_with fail
  refine KA.out.mono ?_
  rintro e w1 ⟨v, rfl, hb1, fr, hv⟩
  have S1 : Slc w1 9 1 v N (strs (r0 :: rest)) := hv.elim (fun h => h.2) (fun h => absurd rfl h.1)
  have hg1 : ∀ x ∈ ownB v, w.heap.size + 1 ≤ x := fun x hx => by have := fr x hx; rw [asz] at this; exact this
  obtain ⟨V1, vc1, rfl⟩ := slc_val S1
  have O1 := Lib.hid (bstep O0.out hb1)
  have B1 := Lib.hid (B0.out.below hb1 B0.out.lt)
  have f0 : w1.frozen? ⟨w.heap.size, 0, none⟩ = false := B1.out.frozen 0 (by simp)
  have f1 : w1.frozen? ⟨w.heap.size, 1, none⟩ = false := B1.out.frozen 1 (by simp)
  have z0 : w1.cell? ⟨w.heap.size, 0, none⟩ = some (.bool false) := B1.out.cell_some (i := 0) rfl
  have z1 : w1.cell? ⟨w.heap.size, 1, none⟩ = some (.slice none 0 0) := B1.out.cell_some (i := 1) rfl
  have BZ := Lib.hid ((B1.out.set_ 0 (.bool false)).set_ 1 (.slice none 0 0))
  have OZ := Lib.hid (((((Only.of_below (S := []) O1.out).setCell (p := ⟨w.heap.size, 0, none⟩) (fun h => absurd h (by simp)) (.bool false)).setCell (p := ⟨w.heap.size, 1, none⟩) (fun h => absurd h (by simp)) (.slice none 0 0))).below_nil)
  clear fr hb1 hv
  obtain rfl : N = rest.length + 1 := by simpa using hN.symm
  obtain ⟨g, rfl, ck⟩ := str_cell S1 0 (by simp)
  have hgw : w.heap.size < g := hg1 g (by simp [ownB])
  have hgl : g < w1.heap.size := S1.lt g (by simp [ownB])
  have hwl1 := B1.out.lt
  have ck0 : w1.cell? ⟨g, 0, none⟩ = some (.string ⟨r0.toArray⟩) := ck
  have S1 := Lib.hid S1
  have hrl : rest.length ≤ 56 := Nat.le_of_succ_le_succ hm
  have hcap : rest.length + 1 ≤ vc1 ∧ vc1 ≤ maxLen := by
    obtain ⟨r, _, h1, _, h2⟩ := S1.out.blk
    simp at h1
    exact ⟨by first | omega | (simp; omega), h2⟩
  clear ck hg1 KA hN hm
  obtain ⟨K0, hK0⟩ : ∃ K0 : ByteArray, (⟨r0.toArray⟩ : ByteArray) = K0 := ⟨_, rfl⟩
  rw [hK0] at ck0
  have hKL : K0.toList = r0 := by rw [bytes_toList, ← hK0]
  clear hK0
  have n1 : ¬ (rest.length : Int) + 1 = 0 := by omega
  have n2 : ((rest.length : Int) + 1 == 0) = false := by simpa using n1
  rw [← hKL] at h1 h2
  have k1 : (K0.toList == [1]) = false := by simpa using h1
  have k2 : (K0.toList == [2]) = false := by simpa using h2
  have HNO := Lib.hid (show ¬ ReadOk (r0 :: rest) from fun hx => by
    have := hx.1
    simp only [List.head?_cons, Option.some.injEq] at this
    rw [← hKL] at this
    exact this.elim h1 h2)
  clear hKL
  go_wp2_with fail
  exact bodyPost_ret (ret_node2 rfl rfl BZ.out) rfl ⟨.inl ⟨HNO.out, rfl⟩, OZ.out⟩
set_option maxRecDepth 100000 in
set_option maxHeartbeats 3000000 in
theorem got_one_true (s : ByteArray) (w : World) (hs : s.size ≤ 1000000) (hq : checkF s.data.toList = 0) (r0 : List UInt8) (hr0 : r0 = [1]) (hrs : recs s.data.toList = [r0]) :
    Calls Try.prog 18 #[.string s] w (GotOf ([r0]) w) := by
  have B0 := Blk.new w 32 #[.bool false, .slice none 0 0]
  have O0 := belowAlloc (Below.refl w.heap.size w) (.cells #[.bool false, .slice none 0 0] 32)
  have KA := Lib.hid (all_any s (w.alloc (.cells #[.bool false, .slice none 0 0] 32)) hs)
  unfold GotOf nodeV
  have O0 := Lib.hid O0
  have B0 := Lib.hid B0
  have hS := (checkF_ok _).1 hq
  have hm := recs_many hS
  have hsm := Lib.hid (recs_small hS)
  have hN := recs_length s.data.toList
  obtain ⟨N, hN2⟩ : ∃ N, at2 s.data.toList 0 = N := ⟨_, rfl⟩
  unfold AllTold at KA
  rw [hq, hrs, hN2] at KA
  rw [hrs, hN2] at hN
  rw [hrs] at hm hsm
  clear hS hq hrs hN2
  go_enter Try.func18, Try.ntmps18
  go_wp2_with fail
  refine KA.out.mono ?_
  rintro e w1 ⟨v, rfl, hb1, fr, hv⟩
  have S1 : Slc w1 9 1 v N (strs [r0]) := hv.elim (fun h => h.2) (fun h => absurd rfl h.1)
  have hg1 : ∀ x ∈ ownB v, w.heap.size + 1 ≤ x := fun x hx => by have := fr x hx; rw [asz] at this; exact this
  obtain ⟨V1, vc1, rfl⟩ := slc_val S1
  have O1 := Lib.hid (bstep O0.out hb1)
  have B1 := Lib.hid (B0.out.below hb1 B0.out.lt)
  have f0 : w1.frozen? ⟨w.heap.size, 0, none⟩ = false := B1.out.frozen 0 (by simp)
  have f1 : w1.frozen? ⟨w.heap.size, 1, none⟩ = false := B1.out.frozen 1 (by simp)
  have z0 : w1.cell? ⟨w.heap.size, 0, none⟩ = some (.bool false) := B1.out.cell_some (i := 0) rfl
  have z1 : w1.cell? ⟨w.heap.size, 1, none⟩ = some (.slice none 0 0) := B1.out.cell_some (i := 1) rfl
  have BZ := Lib.hid ((B1.out.set_ 0 (.bool false)).set_ 1 (.slice none 0 0))
  have OZ := Lib.hid (((((Only.of_below (S := []) O1.out).setCell (p := ⟨w.heap.size, 0, none⟩) (fun h => absurd h (by simp)) (.bool false)).setCell (p := ⟨w.heap.size, 1, none⟩) (fun h => absurd h (by simp)) (.slice none 0 0))).below_nil)
  clear fr hb1 hv
  obtain rfl : N = ([] : List (List UInt8)).length + 1 := by simpa using hN.symm
  obtain ⟨g, rfl, ck⟩ := str_cell S1 0 (by simp)
  have hgw : w.heap.size < g := hg1 g (by simp [ownB])
  have hgl : g < w1.heap.size := S1.lt g (by simp [ownB])
  have hwl1 := B1.out.lt
  have ck0 : w1.cell? ⟨g, 0, none⟩ = some (.string ⟨r0.toArray⟩) := ck
  have S1 := Lib.hid S1
  have hrl : ([] : List (List UInt8)).length ≤ 56 := Nat.le_of_succ_le_succ hm
  have hcap : ([] : List (List UInt8)).length + 1 ≤ vc1 ∧ vc1 ≤ maxLen := by
    obtain ⟨r, _, h1, _, h2⟩ := S1.out.blk
    simp at h1
    exact ⟨by first | omega | (simp; omega), h2⟩
  clear ck hg1 KA hN hm
  obtain ⟨K0, hK0⟩ : ∃ K0 : ByteArray, (⟨r0.toArray⟩ : ByteArray) = K0 := ⟨_, rfl⟩
  rw [hK0] at ck0
  have hKL : K0.toList = r0 := by rw [bytes_toList, ← hK0]
  clear hK0
  have hk : K0.toList = [1] := by rw [hKL]; exact hr0
  have HR0 := Lib.hid hr0
  have k1 : (K0.toList == [1]) = true := by rw [hk]; decide
  have k2 : (K0.toList == [2]) = false := by rw [hk]; decide
  have k3 : K0.toList = [1] := by rw [hk]
  clear hKL hk
  have R0 := Lib.hid (show Blk (w1.alloc (.cells #[.bool true, .slice none 0 0] 32)) w1.heap.size 32 #[.bool true, .slice none 0 0] from Blk.new w1 _ _)
  have R2 := Lib.hid (B1.out.alloc (.cells #[.bool true, .slice none 0 0] 32))
  have RO := Lib.hid (bstep O1.out (belowAlloc (Below.refl _ _) (.cells #[.bool true, .slice none 0 0] 32)))
  have HLF := Lib.hid (show leafR [r0] = true from by simp [leafR, HR0.out])
  have HM := Lib.hid (show mayP ([] : List E) true from fun i hi => absurd hi (Nat.not_lt_zero _))
  have HYES := Lib.hid (show ReadOk [r0] from ⟨by rw [HR0.out]; simp, by simp, by rw [HLF.out]; exact HM.out⟩)
  by_cases hv1 : vc1 = 1
  all_goals
    go_wp2_with fail
    generalize hW6 : (w1.alloc (.cells #[.bool true, .slice none 0 0] 32)) = W6 at *
    clear hW6 f0 f1 z0 z1 ck0
    have KM := Lib.hid (may_any (w := W6) true none 0 0 [] (show Ents W6 none 0 [] from ⟨rfl, fun k e h => by simp at h⟩) (by omega))
    unfold nodeV at KM
    go_loopw [46] (fun iv wr => iv = .int .i64 0 ∧ wr = W6) (fun _ _ => 0)
    case atStart => exact ⟨rfl, rfl⟩
    case round =>
      obtain ⟨rfl, rfl⟩ := hrel
      have d0 : wr.cell? ⟨w1.heap.size, 0, none⟩ = some (.bool true) := R0.out.cell_some (i := 0) rfl
      have d1 : wr.cell? ⟨w1.heap.size, 1, none⟩ = some (.slice none 0 0) := R0.out.cell_some (i := 1) rfl
      go_wp2_with fail
      refine KM.out.mono ?_
      rintro e' w2 ⟨⟨b, rfl, hb⟩, hb2⟩
      obtain rfl := hb.2 HM.out
      have CW := R2.out.below hb2 R2.out.lt
      have CN := R0.out.below hb2 R0.out.lt
      have f0 : w2.frozen? ⟨w.heap.size, 0, none⟩ = false := CW.frozen 0 (by simp)
      have f1 : w2.frozen? ⟨w.heap.size, 1, none⟩ = false := CW.frozen 1 (by simp)
      have z0 : w2.cell? ⟨w.heap.size, 0, none⟩ = some (.bool false) := CW.cell_some (i := 0) rfl
      have z1 : w2.cell? ⟨w.heap.size, 1, none⟩ = some (.slice none 0 0) := CW.cell_some (i := 1) rfl
      have y0 : w2.cell? ⟨w1.heap.size, 0, none⟩ = some (.bool true) := CN.cell_some (i := 0) rfl
      have y1 : w2.cell? ⟨w1.heap.size, 1, none⟩ = some (.slice none 0 0) := CN.cell_some (i := 1) rfl
      have hwlt := R2.out.lt
      have CX := Lib.hid ((CW.set_ 0 (.bool true)).set_ 1 (.slice none 0 0))
      have OX := Lib.hid ((((Only.of_below (S := []) (bstep RO.out hb2)).setCell (p := ⟨w.heap.size, 0, none⟩) (fun h => absurd h (by simp)) (.bool true)).setCell (p := ⟨w.heap.size, 1, none⟩) (fun h => absurd h (by simp)) (.slice none 0 0)).below_nil)
      clear CW CN hb2 hb d0 d1
      go_wp2_with fail
      exact bodyPost_ret (ret_node2 rfl rfl CX.out) rfl ⟨.inr ⟨HYES.out, none, 0, 0, by rw [HLF.out]; rfl, Slc.nil _ _ _, Lib.hid (fun x hx => by simp [ownB] at hx)⟩, OX.out⟩
set_option maxRecDepth 100000 in
set_option maxHeartbeats 3000000 in
theorem got_many_true (s : ByteArray) (w : World) (hs : s.size ≤ 1000000) (hq : checkF s.data.toList = 0) (r0 : List UInt8) (rest : List (List UInt8)) (hr0 : r0 = [1]) (hne : rest ≠ []) (hrs : recs s.data.toList = r0 :: rest) :
    Calls Try.prog 18 #[.string s] w (GotOf (r0 :: rest) w) := by
  have B0 := Blk.new w 32 #[.bool false, .slice none 0 0]
  have O0 := belowAlloc (Below.refl w.heap.size w) (.cells #[.bool false, .slice none 0 0] 32)
  have KA := Lib.hid (all_any s (w.alloc (.cells #[.bool false, .slice none 0 0] 32)) hs)
  unfold GotOf nodeV
  have O0 := Lib.hid O0
  have B0 := Lib.hid B0
  have hS := (checkF_ok _).1 hq
  have hm := recs_many hS
  have hsm := Lib.hid (recs_small hS)
  have hN := recs_length s.data.toList
  obtain ⟨N, hN2⟩ : ∃ N, at2 s.data.toList 0 = N := ⟨_, rfl⟩
  unfold AllTold at KA
  rw [hq, hrs, hN2] at KA
  rw [hrs, hN2] at hN
  rw [hrs] at hm hsm
  clear hS hq hrs hN2
  go_enter Try.func18, Try.ntmps18
  go_wp2_with fail
  refine KA.out.mono ?_
  rintro e w1 ⟨v, rfl, hb1, fr, hv⟩
  have S1 : Slc w1 9 1 v N (strs (r0 :: rest)) := hv.elim (fun h => h.2) (fun h => absurd rfl h.1)
  have hg1 : ∀ x ∈ ownB v, w.heap.size + 1 ≤ x := fun x hx => by have := fr x hx; rw [asz] at this; exact this
  obtain ⟨V1, vc1, rfl⟩ := slc_val S1
  have O1 := Lib.hid (bstep O0.out hb1)
  have B1 := Lib.hid (B0.out.below hb1 B0.out.lt)
  have f0 : w1.frozen? ⟨w.heap.size, 0, none⟩ = false := B1.out.frozen 0 (by simp)
  have f1 : w1.frozen? ⟨w.heap.size, 1, none⟩ = false := B1.out.frozen 1 (by simp)
  have z0 : w1.cell? ⟨w.heap.size, 0, none⟩ = some (.bool false) := B1.out.cell_some (i := 0) rfl
  have z1 : w1.cell? ⟨w.heap.size, 1, none⟩ = some (.slice none 0 0) := B1.out.cell_some (i := 1) rfl
  have BZ := Lib.hid ((B1.out.set_ 0 (.bool false)).set_ 1 (.slice none 0 0))
  have OZ := Lib.hid (((((Only.of_below (S := []) O1.out).setCell (p := ⟨w.heap.size, 0, none⟩) (fun h => absurd h (by simp)) (.bool false)).setCell (p := ⟨w.heap.size, 1, none⟩) (fun h => absurd h (by simp)) (.slice none 0 0))).below_nil)
  clear fr hb1 hv
  obtain rfl : N = rest.length + 1 := by simpa using hN.symm
  obtain ⟨g, rfl, ck⟩ := str_cell S1 0 (by simp)
  have hgw : w.heap.size < g := hg1 g (by simp [ownB])
  have hgl : g < w1.heap.size := S1.lt g (by simp [ownB])
  have hwl1 := B1.out.lt
  have ck0 : w1.cell? ⟨g, 0, none⟩ = some (.string ⟨r0.toArray⟩) := ck
  have S1 := Lib.hid S1
  have hrl : rest.length ≤ 56 := Nat.le_of_succ_le_succ hm
  have hcap : rest.length + 1 ≤ vc1 ∧ vc1 ≤ maxLen := by
    obtain ⟨r, _, h1, _, h2⟩ := S1.out.blk
    simp at h1
    exact ⟨by first | omega | (simp; omega), h2⟩
  clear ck hg1 KA hN hm
  obtain ⟨K0, hK0⟩ : ∃ K0 : ByteArray, (⟨r0.toArray⟩ : ByteArray) = K0 := ⟨_, rfl⟩
  rw [hK0] at ck0
  have hKL : K0.toList = r0 := by rw [bytes_toList, ← hK0]
  clear hK0
  have hk : K0.toList = [1] := by rw [hKL]; exact hr0
  have HR0 := Lib.hid hr0
  have k1 : (K0.toList == [1]) = true := by rw [hk]; decide
  have k2 : (K0.toList == [2]) = false := by rw [hk]; decide
  have k3 : K0.toList = [1] := by rw [hk]
  clear hKL hk
  have n1 : ¬ (rest.length : Int) + 1 = 0 := by omega
  have n2 : ((rest.length : Int) + 1 == 0) = false := by simpa using n1
  have hv1 : ¬ vc1 = 1 := fun h => by
    have : 0 < rest.length := List.length_pos_iff.2 hne
    omega
  have R0 := Lib.hid (show Blk (w1.alloc (.cells #[.bool true, .slice none 0 0] 32)) w1.heap.size 32 #[.bool true, .slice none 0 0] from Blk.new w1 _ _)
  have R2 := Lib.hid (B1.out.alloc (.cells #[.bool true, .slice none 0 0] 32))
  have RS := Lib.hid (S1.out.alloc (.cells #[.bool true, .slice none 0 0] 32))
  have RO := Lib.hid (bstep O1.out (belowAlloc (Below.refl _ _) (.cells #[.bool true, .slice none 0 0] 32)))
  go_wp2_with fail
  generalize hW6 : (w1.alloc (.cells #[.bool true, .slice none 0 0] 32)) = W6 at *
  clear hW6 f0 f1 z0 z1 ck0
  go_loopw [46] (fun iv wr => ∃ (i : Nat) (v' : Value), i ≤ rest.length ∧ iv = .int .i64 i ∧ Blk wr w1.heap.size 32 #[.bool true, v'] ∧ Blk wr w.heap.size 32 #[.bool false, .slice none 0 0] ∧ Slc wr 56 3 v' i (ents ((rest.take i).map fun r => entryE ⟨r.toArray⟩)) ∧ Slc wr 9 1 (.slice (some ⟨g, 0, none⟩) (rest.length + 1) vc1) (rest.length + 1) (strs (r0 :: rest)) ∧ Hid (∀ r ∈ rest.take i, entryOk ⟨r.toArray⟩) ∧ Below w.heap.size w wr ∧ Hid (∀ x ∈ ownB v', w1.heap.size + 1 ≤ x)) (fun iv _ => rest.length - (intOf iv).toNat)
  case atStart => exact ⟨0, _, Nat.zero_le _, rfl, R0.out, R2.out, Slc.nil _ _ _, RS.out, Lib.hid (by simp), RO.out, Lib.hid (fun x hx => by simp [ownB] at hx)⟩
  case round =>
    obtain ⟨i, v', hi, rfl, C6, C2, S, RS, EO, O, F⟩ := hrel
    obtain ⟨VA, vc, rfl⟩ := slc_val S
    have hltr := C6.lt
    have hg6 : w1.heap.size ∉ ownB (.slice VA i vc) := fun hx => by have := F.out _ hx; omega
    have hg2 : w.heap.size ∉ ownB (.slice VA i vc) := fun hx => by have := F.out _ hx; omega
    have hgg : g ∉ ownB (.slice VA i vc) := fun hx => by have := F.out _ hx; omega
    by_cases h : i < rest.length
    · obtain ⟨g', hgx, ck⟩ := str_cell RS (i + 1) (by simp; omega)
      simp only [Option.some.injEq, Addr.mk.injEq, and_true] at hgx
      subst hgx
      have hri : (r0 :: rest)[i + 1]'(by simp; omega) = rest[i] := List.getElem_cons_succ ..
      rw [hri] at ck
      have hsz : rest[i].length ≤ 232 := hsm.out _ (List.mem_cons_of_mem _ (List.getElem_mem h))
      have HT := Lib.hid (List.take_succ_eq_append_getElem h)
      obtain ⟨T, hT⟩ : ∃ T : ByteArray, (⟨rest[i].toArray⟩ : ByteArray) = T := ⟨_, rfl⟩
      have hTs : T.size ≤ 232 := by rw [← hT, Sl.size_of_list]; exact hsz
      rw [hT] at ck
      have HTT := Lib.hid hT
      have ck2 : wr.cell? ((⟨g, 1, none⟩ : Addr).add i) = some (.string T) := by rw [addr_at, Nat.add_comm]; exact ck
      have hiI : (i : Int) < (rest.length : Int) := by omega
      have ck3 : wr.cell? ⟨g, 1 + i, none⟩ = some (.string T) := by rw [Nat.add_comm]; exact ck
      clear hT hri hsz
      by_cases hok : entryOk T
      · have KE := Lib.hid (fun w => entry_yes w T hok (by omega))
        have HOK := Lib.hid hok
        obtain ⟨e, he⟩ : ∃ e, entryE T = e := ⟨_, rfl⟩
        rw [he] at KE
        have HE := Lib.hid he
        have SL := Lib.hid S
        have CL := Lib.hid C6
        have C2L := Lib.hid C2
        have RL := Lib.hid RS
        have OL := Lib.hid O
        unfold E.agg at KE
        clear hok he S C6 C2 RS O
        go_wp2_with fail
        refine (KE.out _).mono ?_
        rintro e' w2 ⟨rfl, hb2⟩
        obtain ⟨v2, w3, ea, S3, ow, f3⟩ := append_ent (P := Try.prog) ((SL.out.below hb2).alloc (.cells #[.string e.key, .string e.val, .int .i64 e.far] 56)) 30 30 (.agg #[.string .empty, .string .empty, .int .i64 0]) 40 Try.underlying30 (by kernel_rfl) rfl e (by unfold maxLen; omega) (by omega)
        rw [asz] at ea
        obtain ⟨V2, vc2, rfl⟩ := slc_val S3
        have EA := Lib.hid ea
        have O2 := Lib.hid ((Only.of_below (S := ownB (.slice VA i vc)) hb2).alloc (.cells #[.string e.key, .string e.val, .int .i64 e.far] 56))
        have OW := O2.out.trans ow
        have CW := ((CL.out.below hb2 CL.out.lt).alloc (.cells #[.string e.key, .string e.val, .int .i64 e.far] 56)).only ow hg6
        have c61 : ((w2.alloc (.cells #[.string e.key, .string e.val, .int .i64 e.far] 56))).cell? ⟨w1.heap.size, 1, none⟩ = some (.slice VA i vc) := ((CL.out.below hb2 CL.out.lt).alloc (.cells #[.string e.key, .string e.val, .int .i64 e.far] 56)).cell_some (i := 1) rfl
        have fz : w3.frozen? ⟨w1.heap.size, 1, none⟩ = false := CW.frozen 1 (by simp)
        have cz : w3.cell? ⟨w1.heap.size, 1, none⟩ = some (.slice VA i vc) := CW.cell_some (i := 1) rfl
        have hsz2 : wr.heap.size ≤ w2.heap.size := hb2.size
        have OX := OW.mono (S' := w1.heap.size :: ownB (.slice VA i vc)) (fun x hx _ => List.mem_cons_of_mem _ hx) |>.setCell (p := ⟨w1.heap.size, 1, none⟩) (fun _ => by simp) (.slice V2 (i + 1) vc2)
        have CX := Lib.hid (CW.set_ 1 (.slice V2 (i + 1) vc2))
        have C2X := Lib.hid (C2L.out.only OX (by simp; exact ⟨by omega, hg2⟩))
        have RX := Lib.hid (RL.out.only OX (fun x hx => by simp [ownB] at hx; subst hx; simp; exact ⟨by omega, hgg⟩))
        have hv2 : ∀ x ∈ ownB (.slice V2 (i + 1) vc2), w1.heap.size + 1 ≤ x := fun x hx => (f3 x hx).elim (F.out x) (fun h => by rw [asz] at h; omega)
        have FX := Lib.hid hv2
        have SX := Lib.hid (S3.only ((Only.refl [w1.heap.size] w3).setCell (p := ⟨w1.heap.size, 1, none⟩) (fun _ => by simp) (.slice V2 (i + 1) vc2)) (fun x hx => by have := hv2 x hx; simp; omega))
        have OB := Lib.hid (OL.out.trans (OX.below_of OL.out.size (fun x hx => by
          rcases List.mem_cons.1 hx with rfl | hx
          · omega
          · have := F.out x hx; omega)))
        have HSX := Lib.hid (show ents ((rest.take (i + 1)).map fun r => entryE ⟨r.toArray⟩) = ents ((rest.take i).map fun r => entryE ⟨r.toArray⟩) ++ e.cells from by
          rw [HT.out, List.map_append, ents_append, List.map_cons, HTT.out, HE.out]; simp [ents])
        have EX := Lib.hid (show ∀ r ∈ rest.take (i + 1), entryOk ⟨r.toArray⟩ from fun r hr => by
          rw [HT.out] at hr
          rcases List.mem_append.1 hr with hr | hr
          · exact EO.out r hr
          · simp only [List.mem_singleton] at hr
            rw [hr, HTT.out]; exact HOK.out)
        clear ea S3 ow f3 OW CW OX hv2 hb2
        go_wp2_with fail
        rw [EA.out]
        go_wp2_with fail
        go_roundw
        case rel => exact ⟨i + 1, _, by omega, by go_num, CX.out, C2X.out, by rw [HSX.out]; exact SX.out, RX.out, EX, OB.out, FX⟩
        case measure => simp [intOf]; omega
      · have KE := Lib.hid (fun w => entry_no w T hok)
        have HOK := Lib.hid hok
        have HNO := Lib.hid (show ¬ ReadOk (r0 :: rest) from fun hx => hok (by rw [← HTT.out]; exact hx.2.1 _ (by rw [List.tail_cons]; exact List.getElem_mem h)))
        have C2L := Lib.hid C2
        have OL := Lib.hid O
        unfold E.agg E.zero at KE
        clear hok S C6 C2 RS O
        go_wp2_with fail
        refine (KE.out _).mono ?_
        rintro e' w2 ⟨rfl, hb2⟩
        have CW := (C2L.out.below hb2 C2L.out.lt).alloc (.cells #[.string .empty, .string .empty, .int .i64 0] 56)
        have f0 : (w2.alloc (.cells #[.string .empty, .string .empty, .int .i64 0] 56)).frozen? ⟨w.heap.size, 0, none⟩ = false := CW.frozen 0 (by simp)
        have f1 : (w2.alloc (.cells #[.string .empty, .string .empty, .int .i64 0] 56)).frozen? ⟨w.heap.size, 1, none⟩ = false := CW.frozen 1 (by simp)
        have z0 : (w2.alloc (.cells #[.string .empty, .string .empty, .int .i64 0] 56)).cell? ⟨w.heap.size, 0, none⟩ = some (.bool false) := CW.cell_some (i := 0) rfl
        have z1 : (w2.alloc (.cells #[.string .empty, .string .empty, .int .i64 0] 56)).cell? ⟨w.heap.size, 1, none⟩ = some (.slice none 0 0) := CW.cell_some (i := 1) rfl
        have CX := Lib.hid ((CW.set_ 0 (.bool false)).set_ 1 (.slice none 0 0))
        have OX := Lib.hid ((((Only.of_below (S := []) (bstep OL.out (belowAlloc hb2 (.cells #[.string .empty, .string .empty, .int .i64 0] 56)))).setCell (p := ⟨w.heap.size, 0, none⟩) (fun h => absurd h (by simp)) (.bool false)).setCell (p := ⟨w.heap.size, 1, none⟩) (fun h => absurd h (by simp)) (.slice none 0 0)).below_nil)
        have hwlt := C2L.out.lt
        clear CW hb2
        go_wp2_with fail
        exact bodyPost_ret (ret_node2 rfl rfl CX.out) rfl ⟨.inl ⟨HNO.out, rfl⟩, OX.out⟩
    · obtain rfl : i = rest.length := by omega
      rw [List.take_length] at S EO
      have HE := Lib.hid (show readE (r0 :: rest) = rest.map fun r => entryE ⟨r.toArray⟩ from rfl)
      have HLF := Lib.hid (show leafR (r0 :: rest) = true from by simp [leafR, HR0.out])
      rw [← HE.out] at S
      obtain ⟨-, EN⟩ := Slc.ents S
      have KM := Lib.hid (may_any (w := wr) true VA rest.length vc (readE (r0 :: rest)) EN (by omega))
      have HF := Lib.hid (show (mayP (readE (r0 :: rest)) true → ReadOk (r0 :: rest)) ∧ (ReadOk (r0 :: rest) → mayP (readE (r0 :: rest)) true) from ⟨fun hm => ⟨by rw [HR0.out]; simp, EO.out, by rw [HLF.out]; exact hm⟩, fun hx => by have := hx.2.2; rw [HLF.out] at this; exact this⟩)
      have d0 : wr.cell? ⟨w1.heap.size, 0, none⟩ = some (.bool true) := C6.cell_some (i := 0) rfl
      have d1 : wr.cell? ⟨w1.heap.size, 1, none⟩ = some (.slice VA rest.length vc) := C6.cell_some (i := 1) rfl
      have SL := Lib.hid S
      have CL := Lib.hid C6
      have C2L := Lib.hid C2
      have OL := Lib.hid O
      unfold nodeV at KM
      clear S C6 C2 RS O EN
      go_wp2_with fail
      refine KM.out.mono ?_
      rintro e' w2 ⟨⟨b, rfl, hb⟩, hb2⟩
      have CW := C2L.out.below hb2 C2L.out.lt
      have CN := CL.out.below hb2 CL.out.lt
      have f0 : w2.frozen? ⟨w.heap.size, 0, none⟩ = false := CW.frozen 0 (by simp)
      have f1 : w2.frozen? ⟨w.heap.size, 1, none⟩ = false := CW.frozen 1 (by simp)
      have z0 : w2.cell? ⟨w.heap.size, 0, none⟩ = some (.bool false) := CW.cell_some (i := 0) rfl
      have z1 : w2.cell? ⟨w.heap.size, 1, none⟩ = some (.slice none 0 0) := CW.cell_some (i := 1) rfl
      have y0 : w2.cell? ⟨w1.heap.size, 0, none⟩ = some (.bool true) := CN.cell_some (i := 0) rfl
      have y1 : w2.cell? ⟨w1.heap.size, 1, none⟩ = some (.slice VA rest.length vc) := CN.cell_some (i := 1) rfl
      have hwlt := C2L.out.lt
      cases b
      · have HNO := Lib.hid (show ¬ ReadOk (r0 :: rest) from fun hx => by have := hb.2 (HF.out.2 hx); cases this)
        have CX := Lib.hid ((CW.set_ 0 (.bool false)).set_ 1 (.slice none 0 0))
        have OX := Lib.hid ((((Only.of_below (S := []) (bstep OL.out hb2)).setCell (p := ⟨w.heap.size, 0, none⟩) (fun h => absurd h (by simp)) (.bool false)).setCell (p := ⟨w.heap.size, 1, none⟩) (fun h => absurd h (by simp)) (.slice none 0 0)).below_nil)
        clear CW CN hb2 hb d0 d1
        go_wp2_with fail
        exact bodyPost_ret (ret_node2 rfl rfl CX.out) rfl ⟨.inl ⟨HNO.out, rfl⟩, OX.out⟩
      · have HYES := Lib.hid (HF.out.1 (hb.1 rfl))
        have CX := Lib.hid ((CW.set_ 0 (.bool true)).set_ 1 (.slice VA rest.length vc))
        have OX := Lib.hid ((((Only.of_below (S := []) (bstep OL.out hb2)).setCell (p := ⟨w.heap.size, 0, none⟩) (fun h => absurd h (by simp)) (.bool true)).setCell (p := ⟨w.heap.size, 1, none⟩) (fun h => absurd h (by simp)) (.slice VA rest.length vc)).below_nil)
        have SX := Lib.hid ((SL.out.below hb2).only (((Only.refl [w.heap.size] w2).setCell (p := ⟨w.heap.size, 0, none⟩) (fun _ => by simp) (.bool true)).setCell (p := ⟨w.heap.size, 1, none⟩) (fun _ => by simp) (.slice VA rest.length vc)) (fun x hx => by simp; exact fun hxx => hg2 (hxx ▸ hx)))
        clear CW CN hb2 hb d0 d1
        go_wp2_with fail
        exact bodyPost_ret (ret_node2 rfl rfl CX.out) rfl ⟨.inr (⟨HYES.out, VA, rest.length, vc, by rw [HLF.out]; rfl, SX.out, Lib.hid (fun x hx => by have := F.out x hx; omega)⟩), OX.out⟩
set_option maxRecDepth 100000 in
set_option maxHeartbeats 3000000 in
theorem got_one_false (s : ByteArray) (w : World) (hs : s.size ≤ 1000000) (hq : checkF s.data.toList = 0) (r0 : List UInt8) (hr0 : r0 = [2]) (hrs : recs s.data.toList = [r0]) :
    Calls Try.prog 18 #[.string s] w (GotOf ([r0]) w) := by
  have B0 := Blk.new w 32 #[.bool false, .slice none 0 0]
  have O0 := belowAlloc (Below.refl w.heap.size w) (.cells #[.bool false, .slice none 0 0] 32)
  have KA := Lib.hid (all_any s (w.alloc (.cells #[.bool false, .slice none 0 0] 32)) hs)
  unfold GotOf nodeV
  have O0 := Lib.hid O0
  have B0 := Lib.hid B0
  have hS := (checkF_ok _).1 hq
  have hm := recs_many hS
  have hsm := Lib.hid (recs_small hS)
  have hN := recs_length s.data.toList
  obtain ⟨N, hN2⟩ : ∃ N, at2 s.data.toList 0 = N := ⟨_, rfl⟩
  unfold AllTold at KA
  rw [hq, hrs, hN2] at KA
  rw [hrs, hN2] at hN
  rw [hrs] at hm hsm
  clear hS hq hrs hN2
  go_enter Try.func18, Try.ntmps18
  go_wp2_with fail
  refine KA.out.mono ?_
  rintro e w1 ⟨v, rfl, hb1, fr, hv⟩
  have S1 : Slc w1 9 1 v N (strs [r0]) := hv.elim (fun h => h.2) (fun h => absurd rfl h.1)
  have hg1 : ∀ x ∈ ownB v, w.heap.size + 1 ≤ x := fun x hx => by have := fr x hx; rw [asz] at this; exact this
  obtain ⟨V1, vc1, rfl⟩ := slc_val S1
  have O1 := Lib.hid (bstep O0.out hb1)
  have B1 := Lib.hid (B0.out.below hb1 B0.out.lt)
  have f0 : w1.frozen? ⟨w.heap.size, 0, none⟩ = false := B1.out.frozen 0 (by simp)
  have f1 : w1.frozen? ⟨w.heap.size, 1, none⟩ = false := B1.out.frozen 1 (by simp)
  have z0 : w1.cell? ⟨w.heap.size, 0, none⟩ = some (.bool false) := B1.out.cell_some (i := 0) rfl
  have z1 : w1.cell? ⟨w.heap.size, 1, none⟩ = some (.slice none 0 0) := B1.out.cell_some (i := 1) rfl
  have BZ := Lib.hid ((B1.out.set_ 0 (.bool false)).set_ 1 (.slice none 0 0))
  have OZ := Lib.hid (((((Only.of_below (S := []) O1.out).setCell (p := ⟨w.heap.size, 0, none⟩) (fun h => absurd h (by simp)) (.bool false)).setCell (p := ⟨w.heap.size, 1, none⟩) (fun h => absurd h (by simp)) (.slice none 0 0))).below_nil)
  clear fr hb1 hv
  obtain rfl : N = ([] : List (List UInt8)).length + 1 := by simpa using hN.symm
  obtain ⟨g, rfl, ck⟩ := str_cell S1 0 (by simp)
  have hgw : w.heap.size < g := hg1 g (by simp [ownB])
  have hgl : g < w1.heap.size := S1.lt g (by simp [ownB])
  have hwl1 := B1.out.lt
  have ck0 : w1.cell? ⟨g, 0, none⟩ = some (.string ⟨r0.toArray⟩) := ck
  have S1 := Lib.hid S1
  have hrl : ([] : List (List UInt8)).length ≤ 56 := Nat.le_of_succ_le_succ hm
  have hcap : ([] : List (List UInt8)).length + 1 ≤ vc1 ∧ vc1 ≤ maxLen := by
    obtain ⟨r, _, h1, _, h2⟩ := S1.out.blk
    simp at h1
    exact ⟨by first | omega | (simp; omega), h2⟩
  clear ck hg1 KA hN hm
  obtain ⟨K0, hK0⟩ : ∃ K0 : ByteArray, (⟨r0.toArray⟩ : ByteArray) = K0 := ⟨_, rfl⟩
  rw [hK0] at ck0
  have hKL : K0.toList = r0 := by rw [bytes_toList, ← hK0]
  clear hK0
  have hk : K0.toList = [2] := by rw [hKL]; exact hr0
  have HR0 := Lib.hid hr0
  have k1 : (K0.toList == [1]) = false := by rw [hk]; decide
  have k2 : (K0.toList == [2]) = true := by rw [hk]; decide
  have k3 : ¬ K0.toList = [1] := by rw [hk]; decide
  clear hKL hk
  have R0 := Lib.hid (show Blk (w1.alloc (.cells #[.bool false, .slice none 0 0] 32)) w1.heap.size 32 #[.bool false, .slice none 0 0] from Blk.new w1 _ _)
  have R2 := Lib.hid (B1.out.alloc (.cells #[.bool false, .slice none 0 0] 32))
  have RO := Lib.hid (bstep O1.out (belowAlloc (Below.refl _ _) (.cells #[.bool false, .slice none 0 0] 32)))
  have HLF := Lib.hid (show leafR [r0] = false from by simp [leafR, HR0.out])
  have HM := Lib.hid (show mayP ([] : List E) false from fun i hi => absurd hi (Nat.not_lt_zero _))
  have HYES := Lib.hid (show ReadOk [r0] from ⟨by rw [HR0.out]; simp, by simp, by rw [HLF.out]; exact HM.out⟩)
  by_cases hv1 : vc1 = 1
  all_goals
    go_wp2_with fail
    generalize hW6 : (w1.alloc (.cells #[.bool false, .slice none 0 0] 32)) = W6 at *
    clear hW6 f0 f1 z0 z1 ck0
    have KM := Lib.hid (may_any (w := W6) false none 0 0 [] (show Ents W6 none 0 [] from ⟨rfl, fun k e h => by simp at h⟩) (by omega))
    unfold nodeV at KM
    go_loopw [46] (fun iv wr => iv = .int .i64 0 ∧ wr = W6) (fun _ _ => 0)
    case atStart => exact ⟨rfl, rfl⟩
    case round =>
      obtain ⟨rfl, rfl⟩ := hrel
      have d0 : wr.cell? ⟨w1.heap.size, 0, none⟩ = some (.bool false) := R0.out.cell_some (i := 0) rfl
      have d1 : wr.cell? ⟨w1.heap.size, 1, none⟩ = some (.slice none 0 0) := R0.out.cell_some (i := 1) rfl
      go_wp2_with fail
      refine KM.out.mono ?_
      rintro e' w2 ⟨⟨b, rfl, hb⟩, hb2⟩
      obtain rfl := hb.2 HM.out
      have CW := R2.out.below hb2 R2.out.lt
      have CN := R0.out.below hb2 R0.out.lt
      have f0 : w2.frozen? ⟨w.heap.size, 0, none⟩ = false := CW.frozen 0 (by simp)
      have f1 : w2.frozen? ⟨w.heap.size, 1, none⟩ = false := CW.frozen 1 (by simp)
      have z0 : w2.cell? ⟨w.heap.size, 0, none⟩ = some (.bool false) := CW.cell_some (i := 0) rfl
      have z1 : w2.cell? ⟨w.heap.size, 1, none⟩ = some (.slice none 0 0) := CW.cell_some (i := 1) rfl
      have y0 : w2.cell? ⟨w1.heap.size, 0, none⟩ = some (.bool false) := CN.cell_some (i := 0) rfl
      have y1 : w2.cell? ⟨w1.heap.size, 1, none⟩ = some (.slice none 0 0) := CN.cell_some (i := 1) rfl
      have hwlt := R2.out.lt
      have CX := Lib.hid ((CW.set_ 0 (.bool false)).set_ 1 (.slice none 0 0))
      have OX := Lib.hid ((((Only.of_below (S := []) (bstep RO.out hb2)).setCell (p := ⟨w.heap.size, 0, none⟩) (fun h => absurd h (by simp)) (.bool false)).setCell (p := ⟨w.heap.size, 1, none⟩) (fun h => absurd h (by simp)) (.slice none 0 0)).below_nil)
      clear CW CN hb2 hb d0 d1
      go_wp2_with fail
      exact bodyPost_ret (ret_node2 rfl rfl CX.out) rfl ⟨.inr ⟨HYES.out, none, 0, 0, by rw [HLF.out]; rfl, Slc.nil _ _ _, Lib.hid (fun x hx => by simp [ownB] at hx)⟩, OX.out⟩
set_option maxRecDepth 100000 in
set_option maxHeartbeats 3000000 in
theorem got_many_false (s : ByteArray) (w : World) (hs : s.size ≤ 1000000) (hq : checkF s.data.toList = 0) (r0 : List UInt8) (rest : List (List UInt8)) (hr0 : r0 = [2]) (hne : rest ≠ []) (hrs : recs s.data.toList = r0 :: rest) :
    Calls Try.prog 18 #[.string s] w (GotOf (r0 :: rest) w) := by
  have B0 := Blk.new w 32 #[.bool false, .slice none 0 0]
  have O0 := belowAlloc (Below.refl w.heap.size w) (.cells #[.bool false, .slice none 0 0] 32)
  have KA := Lib.hid (all_any s (w.alloc (.cells #[.bool false, .slice none 0 0] 32)) hs)
  unfold GotOf nodeV
  have O0 := Lib.hid O0
  have B0 := Lib.hid B0
  have hS := (checkF_ok _).1 hq
  have hm := recs_many hS
  have hsm := Lib.hid (recs_small hS)
  have hN := recs_length s.data.toList
  obtain ⟨N, hN2⟩ : ∃ N, at2 s.data.toList 0 = N := ⟨_, rfl⟩
  unfold AllTold at KA
  rw [hq, hrs, hN2] at KA
  rw [hrs, hN2] at hN
  rw [hrs] at hm hsm
  clear hS hq hrs hN2
  go_enter Try.func18, Try.ntmps18
  go_wp2_with fail
  refine KA.out.mono ?_
  rintro e w1 ⟨v, rfl, hb1, fr, hv⟩
  have S1 : Slc w1 9 1 v N (strs (r0 :: rest)) := hv.elim (fun h => h.2) (fun h => absurd rfl h.1)
  have hg1 : ∀ x ∈ ownB v, w.heap.size + 1 ≤ x := fun x hx => by have := fr x hx; rw [asz] at this; exact this
  obtain ⟨V1, vc1, rfl⟩ := slc_val S1
  have O1 := Lib.hid (bstep O0.out hb1)
  have B1 := Lib.hid (B0.out.below hb1 B0.out.lt)
  have f0 : w1.frozen? ⟨w.heap.size, 0, none⟩ = false := B1.out.frozen 0 (by simp)
  have f1 : w1.frozen? ⟨w.heap.size, 1, none⟩ = false := B1.out.frozen 1 (by simp)
  have z0 : w1.cell? ⟨w.heap.size, 0, none⟩ = some (.bool false) := B1.out.cell_some (i := 0) rfl
  have z1 : w1.cell? ⟨w.heap.size, 1, none⟩ = some (.slice none 0 0) := B1.out.cell_some (i := 1) rfl
  have BZ := Lib.hid ((B1.out.set_ 0 (.bool false)).set_ 1 (.slice none 0 0))
  have OZ := Lib.hid (((((Only.of_below (S := []) O1.out).setCell (p := ⟨w.heap.size, 0, none⟩) (fun h => absurd h (by simp)) (.bool false)).setCell (p := ⟨w.heap.size, 1, none⟩) (fun h => absurd h (by simp)) (.slice none 0 0))).below_nil)
  clear fr hb1 hv
  obtain rfl : N = rest.length + 1 := by simpa using hN.symm
  obtain ⟨g, rfl, ck⟩ := str_cell S1 0 (by simp)
  have hgw : w.heap.size < g := hg1 g (by simp [ownB])
  have hgl : g < w1.heap.size := S1.lt g (by simp [ownB])
  have hwl1 := B1.out.lt
  have ck0 : w1.cell? ⟨g, 0, none⟩ = some (.string ⟨r0.toArray⟩) := ck
  have S1 := Lib.hid S1
  have hrl : rest.length ≤ 56 := Nat.le_of_succ_le_succ hm
  have hcap : rest.length + 1 ≤ vc1 ∧ vc1 ≤ maxLen := by
    obtain ⟨r, _, h1, _, h2⟩ := S1.out.blk
    simp at h1
    exact ⟨by first | omega | (simp; omega), h2⟩
  clear ck hg1 KA hN hm
  obtain ⟨K0, hK0⟩ : ∃ K0 : ByteArray, (⟨r0.toArray⟩ : ByteArray) = K0 := ⟨_, rfl⟩
  rw [hK0] at ck0
  have hKL : K0.toList = r0 := by rw [bytes_toList, ← hK0]
  clear hK0
  have hk : K0.toList = [2] := by rw [hKL]; exact hr0
  have HR0 := Lib.hid hr0
  have k1 : (K0.toList == [1]) = false := by rw [hk]; decide
  have k2 : (K0.toList == [2]) = true := by rw [hk]; decide
  have k3 : ¬ K0.toList = [1] := by rw [hk]; decide
  clear hKL hk
  have n1 : ¬ (rest.length : Int) + 1 = 0 := by omega
  have n2 : ((rest.length : Int) + 1 == 0) = false := by simpa using n1
  have hv1 : ¬ vc1 = 1 := fun h => by
    have : 0 < rest.length := List.length_pos_iff.2 hne
    omega
  have R0 := Lib.hid (show Blk (w1.alloc (.cells #[.bool false, .slice none 0 0] 32)) w1.heap.size 32 #[.bool false, .slice none 0 0] from Blk.new w1 _ _)
  have R2 := Lib.hid (B1.out.alloc (.cells #[.bool false, .slice none 0 0] 32))
  have RS := Lib.hid (S1.out.alloc (.cells #[.bool false, .slice none 0 0] 32))
  have RO := Lib.hid (bstep O1.out (belowAlloc (Below.refl _ _) (.cells #[.bool false, .slice none 0 0] 32)))
  go_wp2_with fail
  generalize hW6 : (w1.alloc (.cells #[.bool false, .slice none 0 0] 32)) = W6 at *
  clear hW6 f0 f1 z0 z1 ck0
  go_loopw [46] (fun iv wr => ∃ (i : Nat) (v' : Value), i ≤ rest.length ∧ iv = .int .i64 i ∧ Blk wr w1.heap.size 32 #[.bool false, v'] ∧ Blk wr w.heap.size 32 #[.bool false, .slice none 0 0] ∧ Slc wr 56 3 v' i (ents ((rest.take i).map fun r => entryE ⟨r.toArray⟩)) ∧ Slc wr 9 1 (.slice (some ⟨g, 0, none⟩) (rest.length + 1) vc1) (rest.length + 1) (strs (r0 :: rest)) ∧ Hid (∀ r ∈ rest.take i, entryOk ⟨r.toArray⟩) ∧ Below w.heap.size w wr ∧ Hid (∀ x ∈ ownB v', w1.heap.size + 1 ≤ x)) (fun iv _ => rest.length - (intOf iv).toNat)
  case atStart => exact ⟨0, _, Nat.zero_le _, rfl, R0.out, R2.out, Slc.nil _ _ _, RS.out, Lib.hid (by simp), RO.out, Lib.hid (fun x hx => by simp [ownB] at hx)⟩
  case round =>
    obtain ⟨i, v', hi, rfl, C6, C2, S, RS, EO, O, F⟩ := hrel
    obtain ⟨VA, vc, rfl⟩ := slc_val S
    have hltr := C6.lt
    have hg6 : w1.heap.size ∉ ownB (.slice VA i vc) := fun hx => by have := F.out _ hx; omega
    have hg2 : w.heap.size ∉ ownB (.slice VA i vc) := fun hx => by have := F.out _ hx; omega
    have hgg : g ∉ ownB (.slice VA i vc) := fun hx => by have := F.out _ hx; omega
    by_cases h : i < rest.length
    · obtain ⟨g', hgx, ck⟩ := str_cell RS (i + 1) (by simp; omega)
      simp only [Option.some.injEq, Addr.mk.injEq, and_true] at hgx
      subst hgx
      have hri : (r0 :: rest)[i + 1]'(by simp; omega) = rest[i] := List.getElem_cons_succ ..
      rw [hri] at ck
      have hsz : rest[i].length ≤ 232 := hsm.out _ (List.mem_cons_of_mem _ (List.getElem_mem h))
      have HT := Lib.hid (List.take_succ_eq_append_getElem h)
      obtain ⟨T, hT⟩ : ∃ T : ByteArray, (⟨rest[i].toArray⟩ : ByteArray) = T := ⟨_, rfl⟩
      have hTs : T.size ≤ 232 := by rw [← hT, Sl.size_of_list]; exact hsz
      rw [hT] at ck
      have HTT := Lib.hid hT
      have ck2 : wr.cell? ((⟨g, 1, none⟩ : Addr).add i) = some (.string T) := by rw [addr_at, Nat.add_comm]; exact ck
      have hiI : (i : Int) < (rest.length : Int) := by omega
      have ck3 : wr.cell? ⟨g, 1 + i, none⟩ = some (.string T) := by rw [Nat.add_comm]; exact ck
      clear hT hri hsz
      by_cases hok : entryOk T
      · have KE := Lib.hid (fun w => entry_yes w T hok (by omega))
        have HOK := Lib.hid hok
        obtain ⟨e, he⟩ : ∃ e, entryE T = e := ⟨_, rfl⟩
        rw [he] at KE
        have HE := Lib.hid he
        have SL := Lib.hid S
        have CL := Lib.hid C6
        have C2L := Lib.hid C2
        have RL := Lib.hid RS
        have OL := Lib.hid O
        unfold E.agg at KE
        clear hok he S C6 C2 RS O
        go_wp2_with fail
        refine (KE.out _).mono ?_
        rintro e' w2 ⟨rfl, hb2⟩
        obtain ⟨v2, w3, ea, S3, ow, f3⟩ := append_ent (P := Try.prog) ((SL.out.below hb2).alloc (.cells #[.string e.key, .string e.val, .int .i64 e.far] 56)) 30 30 (.agg #[.string .empty, .string .empty, .int .i64 0]) 40 Try.underlying30 (by kernel_rfl) rfl e (by unfold maxLen; omega) (by omega)
        rw [asz] at ea
        obtain ⟨V2, vc2, rfl⟩ := slc_val S3
        have EA := Lib.hid ea
        have O2 := Lib.hid ((Only.of_below (S := ownB (.slice VA i vc)) hb2).alloc (.cells #[.string e.key, .string e.val, .int .i64 e.far] 56))
        have OW := O2.out.trans ow
        have CW := ((CL.out.below hb2 CL.out.lt).alloc (.cells #[.string e.key, .string e.val, .int .i64 e.far] 56)).only ow hg6
        have c61 : ((w2.alloc (.cells #[.string e.key, .string e.val, .int .i64 e.far] 56))).cell? ⟨w1.heap.size, 1, none⟩ = some (.slice VA i vc) := ((CL.out.below hb2 CL.out.lt).alloc (.cells #[.string e.key, .string e.val, .int .i64 e.far] 56)).cell_some (i := 1) rfl
        have fz : w3.frozen? ⟨w1.heap.size, 1, none⟩ = false := CW.frozen 1 (by simp)
        have cz : w3.cell? ⟨w1.heap.size, 1, none⟩ = some (.slice VA i vc) := CW.cell_some (i := 1) rfl
        have hsz2 : wr.heap.size ≤ w2.heap.size := hb2.size
        have OX := OW.mono (S' := w1.heap.size :: ownB (.slice VA i vc)) (fun x hx _ => List.mem_cons_of_mem _ hx) |>.setCell (p := ⟨w1.heap.size, 1, none⟩) (fun _ => by simp) (.slice V2 (i + 1) vc2)
        have CX := Lib.hid (CW.set_ 1 (.slice V2 (i + 1) vc2))
        have C2X := Lib.hid (C2L.out.only OX (by simp; exact ⟨by omega, hg2⟩))
        have RX := Lib.hid (RL.out.only OX (fun x hx => by simp [ownB] at hx; subst hx; simp; exact ⟨by omega, hgg⟩))
        have hv2 : ∀ x ∈ ownB (.slice V2 (i + 1) vc2), w1.heap.size + 1 ≤ x := fun x hx => (f3 x hx).elim (F.out x) (fun h => by rw [asz] at h; omega)
        have FX := Lib.hid hv2
        have SX := Lib.hid (S3.only ((Only.refl [w1.heap.size] w3).setCell (p := ⟨w1.heap.size, 1, none⟩) (fun _ => by simp) (.slice V2 (i + 1) vc2)) (fun x hx => by have := hv2 x hx; simp; omega))
        have OB := Lib.hid (OL.out.trans (OX.below_of OL.out.size (fun x hx => by
          rcases List.mem_cons.1 hx with rfl | hx
          · omega
          · have := F.out x hx; omega)))
        have HSX := Lib.hid (show ents ((rest.take (i + 1)).map fun r => entryE ⟨r.toArray⟩) = ents ((rest.take i).map fun r => entryE ⟨r.toArray⟩) ++ e.cells from by
          rw [HT.out, List.map_append, ents_append, List.map_cons, HTT.out, HE.out]; simp [ents])
        have EX := Lib.hid (show ∀ r ∈ rest.take (i + 1), entryOk ⟨r.toArray⟩ from fun r hr => by
          rw [HT.out] at hr
          rcases List.mem_append.1 hr with hr | hr
          · exact EO.out r hr
          · simp only [List.mem_singleton] at hr
            rw [hr, HTT.out]; exact HOK.out)
        clear ea S3 ow f3 OW CW OX hv2 hb2
        go_wp2_with fail
        rw [EA.out]
        go_wp2_with fail
        go_roundw
        case rel => exact ⟨i + 1, _, by omega, by go_num, CX.out, C2X.out, by rw [HSX.out]; exact SX.out, RX.out, EX, OB.out, FX⟩
        case measure => simp [intOf]; omega
      · have KE := Lib.hid (fun w => entry_no w T hok)
        have HOK := Lib.hid hok
        have HNO := Lib.hid (show ¬ ReadOk (r0 :: rest) from fun hx => hok (by rw [← HTT.out]; exact hx.2.1 _ (by rw [List.tail_cons]; exact List.getElem_mem h)))
        have C2L := Lib.hid C2
        have OL := Lib.hid O
        unfold E.agg E.zero at KE
        clear hok S C6 C2 RS O
        go_wp2_with fail
        refine (KE.out _).mono ?_
        rintro e' w2 ⟨rfl, hb2⟩
        have CW := (C2L.out.below hb2 C2L.out.lt).alloc (.cells #[.string .empty, .string .empty, .int .i64 0] 56)
        have f0 : (w2.alloc (.cells #[.string .empty, .string .empty, .int .i64 0] 56)).frozen? ⟨w.heap.size, 0, none⟩ = false := CW.frozen 0 (by simp)
        have f1 : (w2.alloc (.cells #[.string .empty, .string .empty, .int .i64 0] 56)).frozen? ⟨w.heap.size, 1, none⟩ = false := CW.frozen 1 (by simp)
        have z0 : (w2.alloc (.cells #[.string .empty, .string .empty, .int .i64 0] 56)).cell? ⟨w.heap.size, 0, none⟩ = some (.bool false) := CW.cell_some (i := 0) rfl
        have z1 : (w2.alloc (.cells #[.string .empty, .string .empty, .int .i64 0] 56)).cell? ⟨w.heap.size, 1, none⟩ = some (.slice none 0 0) := CW.cell_some (i := 1) rfl
        have CX := Lib.hid ((CW.set_ 0 (.bool false)).set_ 1 (.slice none 0 0))
        have OX := Lib.hid ((((Only.of_below (S := []) (bstep OL.out (belowAlloc hb2 (.cells #[.string .empty, .string .empty, .int .i64 0] 56)))).setCell (p := ⟨w.heap.size, 0, none⟩) (fun h => absurd h (by simp)) (.bool false)).setCell (p := ⟨w.heap.size, 1, none⟩) (fun h => absurd h (by simp)) (.slice none 0 0)).below_nil)
        have hwlt := C2L.out.lt
        clear CW hb2
        go_wp2_with fail
        exact bodyPost_ret (ret_node2 rfl rfl CX.out) rfl ⟨.inl ⟨HNO.out, rfl⟩, OX.out⟩
    · obtain rfl : i = rest.length := by omega
      rw [List.take_length] at S EO
      have HE := Lib.hid (show readE (r0 :: rest) = rest.map fun r => entryE ⟨r.toArray⟩ from rfl)
      have HLF := Lib.hid (show leafR (r0 :: rest) = false from by simp [leafR, HR0.out])
      rw [← HE.out] at S
      obtain ⟨-, EN⟩ := Slc.ents S
      have KM := Lib.hid (may_any (w := wr) false VA rest.length vc (readE (r0 :: rest)) EN (by omega))
      have HF := Lib.hid (show (mayP (readE (r0 :: rest)) false → ReadOk (r0 :: rest)) ∧ (ReadOk (r0 :: rest) → mayP (readE (r0 :: rest)) false) from ⟨fun hm => ⟨by rw [HR0.out]; simp, EO.out, by rw [HLF.out]; exact hm⟩, fun hx => by have := hx.2.2; rw [HLF.out] at this; exact this⟩)
      have d0 : wr.cell? ⟨w1.heap.size, 0, none⟩ = some (.bool false) := C6.cell_some (i := 0) rfl
      have d1 : wr.cell? ⟨w1.heap.size, 1, none⟩ = some (.slice VA rest.length vc) := C6.cell_some (i := 1) rfl
      have SL := Lib.hid S
      have CL := Lib.hid C6
      have C2L := Lib.hid C2
      have OL := Lib.hid O
      unfold nodeV at KM
      clear S C6 C2 RS O EN
      go_wp2_with fail
      refine KM.out.mono ?_
      rintro e' w2 ⟨⟨b, rfl, hb⟩, hb2⟩
      have CW := C2L.out.below hb2 C2L.out.lt
      have CN := CL.out.below hb2 CL.out.lt
      have f0 : w2.frozen? ⟨w.heap.size, 0, none⟩ = false := CW.frozen 0 (by simp)
      have f1 : w2.frozen? ⟨w.heap.size, 1, none⟩ = false := CW.frozen 1 (by simp)
      have z0 : w2.cell? ⟨w.heap.size, 0, none⟩ = some (.bool false) := CW.cell_some (i := 0) rfl
      have z1 : w2.cell? ⟨w.heap.size, 1, none⟩ = some (.slice none 0 0) := CW.cell_some (i := 1) rfl
      have y0 : w2.cell? ⟨w1.heap.size, 0, none⟩ = some (.bool false) := CN.cell_some (i := 0) rfl
      have y1 : w2.cell? ⟨w1.heap.size, 1, none⟩ = some (.slice VA rest.length vc) := CN.cell_some (i := 1) rfl
      have hwlt := C2L.out.lt
      cases b
      · have HNO := Lib.hid (show ¬ ReadOk (r0 :: rest) from fun hx => by have := hb.2 (HF.out.2 hx); cases this)
        have CX := Lib.hid ((CW.set_ 0 (.bool false)).set_ 1 (.slice none 0 0))
        have OX := Lib.hid ((((Only.of_below (S := []) (bstep OL.out hb2)).setCell (p := ⟨w.heap.size, 0, none⟩) (fun h => absurd h (by simp)) (.bool false)).setCell (p := ⟨w.heap.size, 1, none⟩) (fun h => absurd h (by simp)) (.slice none 0 0)).below_nil)
        clear CW CN hb2 hb d0 d1
        go_wp2_with fail
        exact bodyPost_ret (ret_node2 rfl rfl CX.out) rfl ⟨.inl ⟨HNO.out, rfl⟩, OX.out⟩
      · have HYES := Lib.hid (HF.out.1 (hb.1 rfl))
        have CX := Lib.hid ((CW.set_ 0 (.bool false)).set_ 1 (.slice VA rest.length vc))
        have OX := Lib.hid ((((Only.of_below (S := []) (bstep OL.out hb2)).setCell (p := ⟨w.heap.size, 0, none⟩) (fun h => absurd h (by simp)) (.bool false)).setCell (p := ⟨w.heap.size, 1, none⟩) (fun h => absurd h (by simp)) (.slice VA rest.length vc)).below_nil)
        have SX := Lib.hid ((SL.out.below hb2).only (((Only.refl [w.heap.size] w2).setCell (p := ⟨w.heap.size, 0, none⟩) (fun _ => by simp) (.bool false)).setCell (p := ⟨w.heap.size, 1, none⟩) (fun _ => by simp) (.slice VA rest.length vc)) (fun x hx => by simp; exact fun hxx => hg2 (hxx ▸ hx)))
        clear CW CN hb2 hb d0 d1
        go_wp2_with fail
        exact bodyPost_ret (ret_node2 rfl rfl CX.out) rfl ⟨.inr (⟨HYES.out, VA, rest.length, vc, by rw [HLF.out]; rfl, SX.out, Lib.hid (fun x hx => by have := F.out x hx; omega)⟩), OX.out⟩
/-- what Get tells -/
def GotTold (s : ByteArray) (w : World) (e : Ending) (w' : World) : Prop :=
  (checkF s.data.toList ≠ 0 ∧ e = .returned (.tuple #[nodeV false none 0 0, .int .i64 (checkF s.data.toList)]) ∧ Below w.heap.size w w') ∨ (checkF s.data.toList = 0 ∧ GotOf (recs s.data.toList) w e w')
set_option maxRecDepth 100000 in
set_option maxHeartbeats 3000000 in
theorem got_any (s : ByteArray) (w : World) (hs : s.size ≤ 1000000) :
    Calls Try.prog 18 #[.string s] w (GotTold s w) := by
  by_cases hq : checkF s.data.toList = 0
  · have lift : ∀ {rs}, recs s.data.toList = rs → Calls Try.prog 18 #[.string s] w (GotOf rs w) → Calls Try.prog 18 #[.string s] w (GotTold s w) := fun h k => k.mono fun e w' h2 => .inr ⟨hq, by rw [h]; exact h2⟩
    match hrs : recs s.data.toList with
    | [] => exact lift hrs (got_nil s w hs hq hrs)
    | r0 :: rest =>
      refine lift hrs ?_
      by_cases h1 : r0 = [1]
      · by_cases hne : rest = []
        · subst hne; exact got_one_true s w hs hq r0 h1 hrs
        · exact got_many_true s w hs hq r0 rest h1 hne hrs
      · by_cases h2 : r0 = [2]
        · by_cases hne : rest = []
          · subst hne; exact got_one_false s w hs hq r0 h2 hrs
          · exact got_many_false s w hs hq r0 rest h2 hne hrs
        · exact got_odd s w hs hq r0 rest h1 h2 hrs
  · have HQ := Lib.hid hq
    have B0 := Blk.new w 32 #[.bool false, .slice none 0 0]
    have O0 := belowAlloc (Below.refl w.heap.size w) (.cells #[.bool false, .slice none 0 0] 32)
    have KA := Lib.hid (all_any s (w.alloc (.cells #[.bool false, .slice none 0 0] 32)) hs)
    unfold GotTold nodeV
    have O0 := Lib.hid O0
    have B0 := Lib.hid B0
    unfold AllTold at KA
    generalize checkF s.data.toList = q at *
    go_enter Try.func18, Try.ntmps18
    go_wp2_with fail
    refine KA.out.mono ?_
    rintro e w1 ⟨v, rfl, hb1, fr, hv⟩
    rcases hv with ⟨h0, -⟩ | ⟨-, rfl⟩
    · exact absurd h0 hq
    have O1 := Lib.hid (bstep O0.out hb1)
    have B1 := Lib.hid (B0.out.below hb1 B0.out.lt)
    have f0 : w1.frozen? ⟨w.heap.size, 0, none⟩ = false := B1.out.frozen 0 (by simp)
    have f1 : w1.frozen? ⟨w.heap.size, 1, none⟩ = false := B1.out.frozen 1 (by simp)
    have z0 : w1.cell? ⟨w.heap.size, 0, none⟩ = some (.bool false) := B1.out.cell_some (i := 0) rfl
    have z1 : w1.cell? ⟨w.heap.size, 1, none⟩ = some (.slice none 0 0) := B1.out.cell_some (i := 1) rfl
    have BZ := Lib.hid ((B1.out.set_ 0 (.bool false)).set_ 1 (.slice none 0 0))
    have OZ := Lib.hid (((((Only.of_below (S := []) O1.out).setCell (p := ⟨w.heap.size, 0, none⟩) (fun h => absurd h (by simp)) (.bool false)).setCell (p := ⟨w.heap.size, 1, none⟩) (fun h => absurd h (by simp)) (.slice none 0 0))).below_nil)
    have q2 : (q == 0) = false := by simpa using hq
    clear fr hb1 KA
    go_wp2_with fail
    exact bodyPost_ret (ret_node2 rfl rfl BZ.out) rfl (.inl ⟨HQ.out, rfl, OZ.out⟩)
end Go.Proofs.Yticehnnbjbliaab.Nd
