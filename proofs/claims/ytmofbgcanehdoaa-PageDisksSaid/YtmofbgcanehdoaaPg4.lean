/- pages: a page read. -/
import Derived.Test.YtmofbgcanehdoaaPg3
import Derived.Test.YtmofbgcanehdoaaCrcCut
import Derived.Laws.ResultCell
namespace Go.Proofs.Ytmofbgcanehdoaa.Pg
open Go.RowKit Pk
attribute [local go_sem ↓] Go.wp_at_zero Go.wp_at_succ
/-- a page's fields -/
structure PG where
  id : Int
  ep : Int
  kd : Int
  s : List UInt8
def PG.zero : PG := ⟨0, 0, 0, []⟩
def PG.val (p : PG) : Value := pageV p.id p.ep p.kd ⟨p.s.toArray⟩
/-- what bytes say -/
def decG (l : List UInt8) : PG := ⟨(beN ((l.drop 4).take 8) : Int) - 9223372036854775808, (beN ((l.drop 12).take 8) : Int) - 9223372036854775808, (beN ((l.drop 20).take 4) : Nat), l.drop 24⟩
def gotF (l : List UInt8) : PG × Int :=
  if l.length ≠ 256 then (.zero, 6)
  else if Crc.fourL (Crc.sumF (l.drop 4)) ≠ l.take 4 then (.zero, 14)
  else if okP (decG l).id (decG l).ep (decG l).kd = true then (decG l, 0) else (.zero, 14)
theorem beN_zero4 (l : List UInt8) : beN ([0, 0, 0, 0] ++ l) = beN l := by simp [beN]
theorem results_cell_p {fn : Func} {p u : Tmp} {w : World} {g : Nat} {id ep kd : Int} {s : ByteArray} {tmps : Array Value} (h : fn.results = #[.cell p 23, .tmp u]) (hp : tmps.getD p undef = .pointer (some ⟨g, 0, none⟩)) (B : Blk w g 23 #[.int .i64 id, .int .i64 ep, .int .i64 kd, .string s]) :
    (results fn tmps).run Try.prog w = .ok (.tuple #[pageV id ep kd s, tmps.getD u undef]) w := by
  have c0 := B.cell_some (i := 0) rfl
  have c1 := B.cell_some (i := 1) rfl
  have c2 := B.cell_some (i := 2) rfl
  have c3 := B.cell_some (i := 3) rfl
  rw [results_cell_tmp h, hp]
  clear h hp B
  unfold pageV
  go_simp
/-- a page's cell, from the call's beginning -/
abbrev zeroC : Array Value := #[.int .i64 0, .int .i64 0, .int .i64 0, .string ⟨#[]⟩]
/-- what a store of a page leaves -/
theorem storeP {w : World} {g : Nat} {cs : Array Value} (B : Blk w g 23 cs) (hc : cs.size = 4) (id ep kd : Int) (s : ByteArray) :
    Blk ((((w.setCell ⟨g, 0, none⟩ (.int .i64 id)).setCell ⟨g, 1, none⟩ (.int .i64 ep)).setCell ⟨g, 2, none⟩ (.int .i64 kd)).setCell ⟨g, 3, none⟩ (.string s)) g 23 #[.int .i64 id, .int .i64 ep, .int .i64 kd, .string s] := by
  obtain ⟨a, b, c, d, rfl⟩ : ∃ a b c d, cs = #[a, b, c, d] := by
    obtain ⟨l⟩ := cs
    match l, hc with
    | [a, b, c, d], _ => exact ⟨a, b, c, d, rfl⟩
  exact (((B.set_ 0 (.int .i64 id)).set_ 1 (.int .i64 ep)).set_ 2 (.int .i64 kd)).set_ 3 (.string s)
theorem storeP_below {W w : World} {g : Nat} (h : Below W.heap.size W w) (hg : W.heap.size ≤ g) (id ep kd : Int) (s : ByteArray) :
    Below W.heap.size W ((((w.setCell ⟨g, 0, none⟩ (.int .i64 id)).setCell ⟨g, 1, none⟩ (.int .i64 ep)).setCell ⟨g, 2, none⟩ (.int .i64 kd)).setCell ⟨g, 3, none⟩ (.string s)) :=
  (((h.setCell (p := ⟨g, 0, none⟩) hg _).setCell (p := ⟨g, 1, none⟩) hg _).setCell (p := ⟨g, 2, none⟩) hg _).setCell (p := ⟨g, 3, none⟩) hg _
set_option maxRecDepth 100000 in
set_option maxHeartbeats 2000000 in
theorem pget_len {w : World} (s : ByteArray) (h : s.size ≠ 256) :
    Calls Try.prog 12 #[.string s] w fun e w' => e = .returned (.tuple #[PG.zero.val, .int .i64 6]) ∧ Below w.heap.size w w' := by
  have B0 := Lib.hid (Blk.new w 23 zeroC)
  have O0 := Lib.hid (belowAlloc (Below.refl w.heap.size w) (.cells zeroC 23))
  have hI : ((s.size : Int) != 256) = true := by rw [bne_iff_ne]; omega
  go_enter Try.func12, Try.ntmps12
  go_wp2_with fail
  exact bodyPost_ret (results_cell_p rfl rfl B0.out) rfl ⟨rfl, O0.out⟩
set_option maxRecDepth 100000 in
set_option maxHeartbeats 2000000 in
theorem pget_corrupt {w : World} (s : ByteArray) (h : s.size = 256) (hc : Crc.fourL (Crc.sumF (s.data.toList.drop 4)) ≠ s.data.toList.take 4) :
    Calls Try.prog 12 #[.string s] w fun e w' => e = .returned (.tuple #[PG.zero.val, .int .i64 14]) ∧ Below w.heap.size w w' := by
  have B0 := Lib.hid (Blk.new w 23 zeroC)
  have O0 := Lib.hid (belowAlloc (Below.refl w.heap.size w) (.cells zeroC 23))
  have hI : ((s.size : Int) != 256) = false := by rw [bne_eq_false_iff_eq]; omega
  have K := Lib.hid (fun w => Crc.cut_corrupt s w (by omega) (by unfold maxLen; omega) hc)
  clear hc
  go_enter Try.func12, Try.ntmps12
  go_wp2_with fail
  refine (K.out _).mono ?_
  rintro e w1 ⟨rfl, hb1⟩
  have O1 := Lib.hid (bstep O0.out hb1)
  have B1 := Lib.hid (B0.out.below hb1 B0.out.lt)
  clear hb1
  have z0 := B1.out.frozen 0 (by simp)
  have z1 := B1.out.frozen 1 (by simp)
  have z2 := B1.out.frozen 2 (by simp)
  have z3 := B1.out.frozen 3 (by simp)
  have c0 := B1.out.cell_some (i := 0) rfl
  have c1 := B1.out.cell_some (i := 1) rfl
  have c2 := B1.out.cell_some (i := 2) rfl
  have c3 := B1.out.cell_some (i := 3) rfl
  have ZB := Lib.hid (storeP B1.out rfl 0 0 0 ⟨#[]⟩)
  have ZO := Lib.hid (storeP_below O1.out (Nat.le_refl _) 0 0 0 ⟨#[]⟩)
  go_wp2_with fail
  exact bodyPost_ret (results_cell_p rfl rfl ZB.out) rfl ⟨rfl, ZO.out⟩
set_option maxRecDepth 100000 in
set_option maxHeartbeats 4000000 in
theorem pget_sound {w : World} (s : ByteArray) (h : s.size = 256) (hc : Crc.fourL (Crc.sumF (s.data.toList.drop 4)) = s.data.toList.take 4) (b : Bool) (hb : okP (decG s.data.toList).id (decG s.data.toList).ep (decG s.data.toList).kd = b) :
    Calls Try.prog 12 #[.string s] w fun e w' => e = .returned (.tuple #[if b then (decG s.data.toList).val else PG.zero.val, .int .i64 (if b then 0 else 14)]) ∧ Below w.heap.size w w' := by
  have B0 := Lib.hid (Blk.new w 23 zeroC)
  have O0 := Lib.hid (belowAlloc (Below.refl w.heap.size w) (.cells zeroC 23))
  have hI : ((s.size : Int) != 256) = false := by rw [bne_eq_false_iff_eq]; omega
  have K := fun w => Crc.cut_ok s w (by omega) (by unfold maxLen; omega) hc
  obtain ⟨T, hT⟩ : ∃ T, s.extract 4 s.size = T := ⟨_, rfl⟩
  rw [hT] at K
  have hTs : T.size = 252 := by rw [← hT, ByteArray.size_extract]; omega
  have hTl : T.data.toList = s.data.toList.drop 4 := by rw [← hT, exl]; exact List.take_of_length_le (by simp)
  have K := Lib.hid K
  have KI := Lib.hid (readI_any T 0 (h1 := by omega) (hs := by omega))
  have KJ := Lib.hid (readI_any T 8 (h1 := by omega) (hs := by omega))
  obtain ⟨U, hU⟩ : ∃ U, (⟨#[0, 0, 0, 0]⟩ : ByteArray) ++ T.extract 16 20 = U := ⟨_, rfl⟩
  have hUs : U.size = 8 := by rw [← hU, ByteArray.size_append, ByteArray.size_extract]; show 4 + _ = 8; omega
  have KU := Lib.hid (readU_any U 0 (h1 := by omega) (hs := by omega))
  have hUl : U.data.toList = [0, 0, 0, 0] ++ (s.data.toList.drop 20).take 4 := by
    rw [← hU, ByteArray.data_append, Array.toList_append, exl, hTl, List.drop_drop]
  obtain ⟨P, hP⟩ : ∃ P, T.extract 20 252 = P := ⟨_, rfl⟩
  have hPl : P.data.toList = s.data.toList.drop 24 := by
    rw [← hP, exl, hTl, List.drop_drop]; exact List.take_of_length_le (by simp; omega)
  obtain ⟨N, hN⟩ : ∃ N, beN ((s.data.toList.drop 20).take 4) = N := ⟨_, rfl⟩
  have hNlt : N < 4294967296 := by
    have h1 := beN_lt ((s.data.toList.drop 20).take 4)
    have h2 : ((s.data.toList.drop 20).take 4).length = 4 := by simp; omega
    rw [h2, hN] at h1
    omega
  have e1 : ((beN (T.extract 0 (0 + 8)).data.toList : Nat) : Int) - 9223372036854775808 = (decG s.data.toList).id := by rw [exl, hTl]; rfl
  have e2 : ((beN (T.extract 8 (8 + 8)).data.toList : Nat) : Int) - 9223372036854775808 = (decG s.data.toList).ep := by rw [exl, hTl, List.drop_drop]; rfl
  have e3 : beN (U.extract 0 (0 + 8)).data.toList = N := by
    rw [exl, List.drop_zero, List.take_of_length_le (by simp; omega), hUl, beN_zero4, hN]
  rw [e1] at KI
  rw [e2] at KJ
  rw [e3] at KU
  have hkd : (decG s.data.toList).kd = (N : Int) := by rw [← hN]; rfl
  have HV := Lib.hid (show (decG s.data.toList).val = pageV (decG s.data.toList).id (decG s.data.toList).ep N P from by
    have : P = ⟨(decG s.data.toList).s.toArray⟩ := by
      have : P.data = (s.data.toList.drop 24).toArray := by rw [← hPl]
      cases P; simp only at this; subst this; rfl
    rw [this, ← hkd]; rfl)
  have i1 : -9223372036854775808 ≤ (decG s.data.toList).id ∧ (decG s.data.toList).id ≤ 9223372036854775807 := by
    have h1 := beN_lt ((s.data.toList.drop 4).take 8)
    have h2 : ((s.data.toList.drop 4).take 8).length = 8 := by simp; omega
    rw [h2] at h1
    show -9223372036854775808 ≤ ((beN _ : Nat) : Int) - 9223372036854775808 ∧ ((beN _ : Nat) : Int) - 9223372036854775808 ≤ 9223372036854775807
    omega
  rw [hkd] at hb
  generalize (decG s.data.toList).id = id at *
  generalize (decG s.data.toList).ep = ep at *
  generalize (decG s.data.toList).val = V at *
  have q1 : IntKind.i64.wrap (N : Int) = (N : Int) := IntWalk.i64_in _ (by omega)
  have KR := Lib.hid (fun w => pright_any (w := w) id ep N P b hb)
  unfold pageV at KR
  clear hc hT hb e1 e2 e3 hkd hN hUl hTl hPl
  go_enter Try.func12, Try.ntmps12
  go_wp2_with fail
  refine (K.out _).mono ?_
  rintro e w1 ⟨rfl, hb1⟩
  have O1 := Lib.hid (bstep O0.out hb1)
  have B1 := Lib.hid (B0.out.below hb1 B0.out.lt)
  clear hb1 O0 B0
  go_wp2_with fail
  refine (KI.out _).mono ?_
  rintro e w2 ⟨rfl, hb2⟩
  have O2 := Lib.hid (bstep O1.out hb2)
  have B2 := Lib.hid (B1.out.below hb2 B1.out.lt)
  clear hb2 O1 B1
  go_wp2_with fail
  refine (KJ.out _).mono ?_
  rintro e w3 ⟨rfl, hb3⟩
  have O3 := Lib.hid (bstep O2.out hb3)
  have B3 := Lib.hid (B2.out.below hb3 B2.out.lt)
  clear hb3 O2 B2
  go_wp2_with fail
  refine (KU.out _).mono ?_
  rintro e w4 ⟨rfl, hb4⟩
  have O4 := Lib.hid (belowAlloc (bstep O3.out hb4) (.cells #[.int .i64 id, .int .i64 ep, .int .i64 (N : Int), .string P] 23))
  have B4 := Lib.hid ((B3.out.below hb4 B3.out.lt).alloc (.cells #[.int .i64 id, .int .i64 ep, .int .i64 (N : Int), .string P] 23))
  have P4 := Lib.hid (Blk.new w4 23 #[.int .i64 id, .int .i64 ep, .int .i64 (N : Int), .string P])
  clear hb4 O3 B3
  go_wp2_with fail
  generalize hw5 : w4.alloc (.cells #[.int .i64 id, .int .i64 ep, .int .i64 (N : Int), .string P] 23) = w5 at *
  clear hw5
  refine (KR.out _).mono ?_
  rintro e w6 ⟨rfl, hb6⟩
  have O6 := Lib.hid (bstep O4.out hb6)
  have B6 := Lib.hid (B4.out.below hb6 B4.out.lt)
  have P6 := Lib.hid (P4.out.below hb6 P4.out.lt)
  have z0 := B6.out.frozen 0 (by simp)
  have z1 := B6.out.frozen 1 (by simp)
  have z2 := B6.out.frozen 2 (by simp)
  have z3 := B6.out.frozen 3 (by simp)
  have c0 := B6.out.cell_some (i := 0) rfl
  have c1 := B6.out.cell_some (i := 1) rfl
  have c2 := B6.out.cell_some (i := 2) rfl
  have c3 := B6.out.cell_some (i := 3) rfl
  have p0 := P6.out.cell_some (i := 0) rfl
  have p1 := P6.out.cell_some (i := 1) rfl
  have p2 := P6.out.cell_some (i := 2) rfl
  have p3 := P6.out.cell_some (i := 3) rfl
  clear hb6 O4 B4 P4
  cases b
  · have ZB := Lib.hid (storeP B6.out rfl 0 0 0 ⟨#[]⟩)
    have ZO := Lib.hid (storeP_below O6.out (Nat.le_refl _) 0 0 0 ⟨#[]⟩)
    go_wp2_with fail
    exact bodyPost_ret (results_cell_p rfl rfl ZB.out) rfl ⟨rfl, ZO.out⟩
  · have ZB := Lib.hid (storeP B6.out rfl id ep N P)
    have ZO := Lib.hid (storeP_below O6.out (Nat.le_refl _) id ep N P)
    go_wp2_with fail
    exact bodyPost_ret (results_cell_p rfl rfl ZB.out) rfl ⟨by rw [HV.out]; rfl, ZO.out⟩
end Go.Proofs.Ytmofbgcanehdoaa.Pg
