/- nodes: Put. -/
import Derived.Test.YticehnnbjbliaabNd8
namespace Go.Proofs.Yticehnnbjbliaab.Nd
open Go.RowKit Sl
attribute [local go_sem ↓] Go.wp_at_zero Go.wp_at_succ
/-- a node's records -/
def kindB (leaf : Bool) : List UInt8 := if leaf = true then [1] else [2]
def recsN (leaf : Bool) (l : List E) : List (List UInt8) := kindB leaf :: l.map recE
theorem recsN_take (leaf : Bool) (l : List E) (i : Nat) (e : E) (h : l[i]? = some e) : recsN leaf (l.take (i + 1)) = recsN leaf (l.take i) ++ [recE e] := by
  unfold recsN
  rw [List.take_add_one, h]; simp
theorem recsN_length (leaf : Bool) (l : List E) : (recsN leaf l).length = l.length + 1 := by simp [recsN]
theorem recE_length (e : E) : (recE e).length = 3 + e.key.size + e.val.size := by
  unfold recE two8
  simp; omega
set_option maxRecDepth 100000 in
set_option maxHeartbeats 2000000 in
theorem put_no {w : World} (leaf : Bool) (A : Option Addr) (n c : Nat) (l : List E) (h : Ents w A n l) (hn : n ≤ 1000000) (hm : ¬ mayP l leaf) :
    Calls Try.prog 10 #[nodeV leaf A n c] w fun r w' => r = .returned (.tuple #[.string ⟨#[]⟩, .int .i64 2]) ∧ Below w.heap.size w w' := by
  have O0 := (Below.refl w.heap.size w).alloc (Nat.le_refl _) (.cells #[.bool leaf, .slice A n c] 32)
  have KM := Lib.hid (may_any (w := w.alloc (.cells #[.bool leaf, .slice A n c] 32)) leaf A n c l (h.below O0) (by omega))
  have O0 := Lib.hid O0
  have HM := Lib.hid hm
  clear h hm
  unfold nodeV at *
  go_enter Try.func10, Try.ntmps10
  go_wp2_with fail
  refine KM.out.mono ?_
  rintro r w1 ⟨⟨b, rfl, hb⟩, hb1⟩
  obtain rfl : b = false := by
    cases b
    · rfl
    · exact absurd (hb.1 rfl) HM.out
  have O1 := Lib.hid (bstep O0.out hb1)
  clear hb hb1
  go_wp2_with fail
  go_ret2
  exact ⟨rfl, O1.out⟩
set_option maxRecDepth 100000 in
set_option maxHeartbeats 2000000 in
theorem put_yes {w : World} (leaf : Bool) (A : Option Addr) (n c : Nat) (l : List E) (h : Ents w A n l) (hn : n ≤ 1000) (hm : mayP l leaf) :
    Calls Try.prog 10 #[nodeV leaf A n c] w (OfTold (recsN leaf l) w) := by
  have O0 := (Below.refl w.heap.size w).alloc (Nat.le_refl _) (.cells #[.bool leaf, .slice A n c] 32)
  have hl := Lib.hid h.1
  have H0 := h.below O0
  have KM := Lib.hid (may_any (w := w.alloc (.cells #[.bool leaf, .slice A n c] 32)) leaf A n c l H0 (by omega))
  have B0 := Lib.hid (Blk.new w 32 #[.bool leaf, .slice A n c])
  have O0 := Lib.hid O0
  have H0 := Lib.hid H0
  have HM := Lib.hid hm
  have HH := Lib.hid h
  have HQ := Lib.hid (show ∀ (i : Nat) (e : E), l[i]? = some e → e.key.size ≤ 32 ∧ e.val.size ≤ 40 ∧ -1 ≤ e.far ∧ e.far ≤ 511 from fun i e he => by
    have h2 := (rightP_iff e leaf).1 (hm i (List.getElem?_eq_some_iff.1 he).1 e he).1
    exact ⟨h2.1, h2.2.1, h2.2.2.1, h2.2.2.2.1⟩)
  have HL := Lib.hid (recsN_length leaf l)
  have HS := Lib.hid (show ∀ r ∈ recsN leaf l, r.length ≤ 1000000 from fun r hr => by
    unfold recsN at hr
    rcases List.mem_cons.1 hr with rfl | hr
    · unfold kindB; split <;> decide
    · obtain ⟨e, he, rfl⟩ := List.mem_map.1 hr
      obtain ⟨i, hi, rfl⟩ := List.getElem_of_mem he
      have := HQ.out i _ (List.getElem?_eq_getElem hi)
      rw [recE_length]; omega)
  clear h hm
  unfold nodeV at *
  go_enter Try.func10, Try.ntmps10
  go_wp2_with fail
  generalize (w.alloc (.cells #[.bool leaf, .slice A n c] 32)) = W0 at *
  refine KM.out.mono ?_
  rintro r w1 ⟨⟨b, rfl, hb⟩, hb1⟩
  obtain rfl : b = true := hb.2 HM.out
  have O1 := Lib.hid (bstep O0.out hb1)
  have H1 := Lib.hid (H0.out.below hb1)
  have B1 := Lib.hid (B0.out.below hb1 B0.out.lt)
  have c0 : w1.cell? ⟨w.heap.size, 0, none⟩ = some (.bool leaf) := B1.out.cell_some (i := 0) rfl
  have c1 : w1.cell? ⟨w.heap.size, 1, none⟩ = some (.slice A n c) := B1.out.cell_some (i := 1) rfl
  have hlt := B1.out.lt
  clear hb hb1
  have SK := Lib.hid (show ∀ k : List UInt8, Slc ((w1.alloc (.cells #[.string ⟨k.toArray⟩] 9)).alloc (.cells #[.slice (some ⟨w1.heap.size, 0, none⟩) 1 1] 34)) 9 1 (.slice (some ⟨w1.heap.size, 0, none⟩) 1 1) 1 (strs [k]) from fun k => ⟨rfl, .inr ⟨w1.heap.size, 1, [], rfl, (Blk.new w1 9 #[.string ⟨k.toArray⟩]).alloc _, rfl, by unfold maxLen; omega⟩⟩)
  have BK := Lib.hid (show ∀ k : List UInt8, Blk ((w1.alloc (.cells #[.string ⟨k.toArray⟩] 9)).alloc (.cells #[.slice (some ⟨w1.heap.size, 0, none⟩) 1 1] 34)) (w1.heap.size + 1) 34 #[.slice (some ⟨w1.heap.size, 0, none⟩) 1 1] from fun k => by
    have := Blk.new (w1.alloc (.cells #[.string ⟨k.toArray⟩] 9)) 34 #[.slice (some ⟨w1.heap.size, 0, none⟩) 1 1]
    rw [asz] at this
    exact this)
  have OK := Lib.hid (show ∀ k : List UInt8, Below w.heap.size w ((w1.alloc (.cells #[.string ⟨k.toArray⟩] 9)).alloc (.cells #[.slice (some ⟨w1.heap.size, 0, none⟩) 1 1] 34)) from fun k => bstep O1.out (belowAlloc (belowAlloc (Below.refl _ _) _) _))
  cases leaf
  · replace SK := Lib.hid (SK.out [2])
    replace BK := Lib.hid (BK.out [2])
    replace OK := Lib.hid (OK.out [2])
    go_wp2_with fail
    generalize hW2 : ((w1.alloc (.cells #[.string ⟨#[2]⟩] 9)).alloc (.cells #[.slice (some ⟨w1.heap.size, 0, none⟩) 1 1] 34)) = W2 at *
    clear hW2 c0 c1
    go_loopw [20] (fun iv wr => ∃ (i : Nat) (v' : Value), i ≤ n ∧ iv = .int .i64 i ∧ Blk wr (w1.heap.size + 1) 34 #[v'] ∧ Slc wr 9 1 v' (i + 1) (strs (recsN false (l.take i))) ∧ Below w.heap.size w wr ∧ Hid (∀ x ∈ ownB v', w.heap.size ≤ x ∧ x ≠ w1.heap.size + 1)) (fun iv _ => n - (intOf iv).toNat)
    case atStart => exact ⟨0, _, Nat.zero_le _, rfl, BK.out, SK.out, OK.out, Lib.hid (fun x hx => by simp [ownB] at hx; omega)⟩
    case round =>
      obtain ⟨i, v', hi, rfl, B, S, O, F⟩ := hrel
      obtain ⟨VA, vc, rfl⟩ := slc_val S
      have hltr := B.lt
      by_cases h : i < n
      · obtain ⟨ad, e, rfl, he, AT⟩ := (HH.out.below O).at i h
        have HT := Lib.hid (recsN_take false l i e he)
        obtain ⟨q1, q2, q3, q4⟩ := HQ.out i e he
        have KP := Lib.hid (put1_any (w := wr.alloc (.cells #[.string e.key, .string e.val, .int .i64 e.far] 56)) e q1 q2 q3 q4 (B.alloc _) (S.alloc _) (fun hx => (F.out _ hx).2 rfl) (by omega))
        have a0 := AT.c0
        have a1 := AT.c1
        have a2 := AT.c2
        have OO := Lib.hid O
        have SZ := Lib.hid (show w.heap.size ≤ w1.heap.size + 1 from by omega)
        clear AT S B O he
        go_wp2_with fail
        refine KP.out.mono ?_
        rintro r w2 ⟨rfl, v2, B2, S2, o2, f2⟩
        have F2 := Lib.hid (show ∀ x ∈ ownB v2, w.heap.size ≤ x ∧ x ≠ w1.heap.size + 1 from fun x hx => (f2 x hx).elim (F.out x) (fun h => by rw [asz] at h; have := OO.out.size; omega))
        have O2 := Lib.hid ((OO.out.alloc OO.out.size (.cells #[.string e.key, .string e.val, .int .i64 e.far] 56)).trans (o2.below_of (by rw [asz]; have := OO.out.size; omega) (fun x hx => by
          rcases List.mem_cons.1 hx with rfl | hx
          · exact SZ.out
          · exact (F.out x hx).1)))
        rw [← HT.out] at S2
        replace S2 := Lib.hid S2
        replace B2 := Lib.hid B2
        clear o2 f2
        go_wp2_with fail
        go_roundw
        case rel => exact ⟨i + 1, v2, by omega, by go_num, B2.out, S2.out, O2.out, F2⟩
        case measure => simp [intOf]; omega
      · obtain rfl : i = n := by omega
        have hln := hl.out
        rw [List.take_of_length_le (by omega)] at S
        have KO := Lib.hid (of_any (l := recsN false l) (by rw [HL.out, hln]; exact S) (by rw [HL.out]; omega) HS.out)
        have b0 : wr.cell? ⟨w1.heap.size + 1, 0, none⟩ = some (.slice VA (i + 1) vc) := B.cell_some (i := 0) rfl
        have OO := Lib.hid O
        clear S B O hln
        go_wp2_with fail
        refine KO.out.mono ?_
        rintro r w2 ⟨hx, hb2⟩
        have O2 := Lib.hid (bstep OO.out hb2)
        clear hb2
        rcases hx with ⟨h0, T, rfl, sT, rT⟩ | ⟨h0, rfl⟩
        · have HX := Lib.hid (And.intro h0 (And.intro sT rT))
          clear h0 sT rT
          go_wp2_with fail
          go_ret2
          exact ⟨.inl ⟨HX.out.1, T, rfl, HX.out.2.1, HX.out.2.2⟩, O2.out⟩
        · have HX := Lib.hid h0
          clear h0
          go_wp2_with fail
          go_ret2
          exact ⟨.inr ⟨HX.out, rfl⟩, O2.out⟩
  · replace SK := Lib.hid (SK.out [1])
    replace BK := Lib.hid (BK.out [1])
    replace OK := Lib.hid (OK.out [1])
    go_wp2_with fail
    generalize hW2 : ((w1.alloc (.cells #[.string ⟨#[1]⟩] 9)).alloc (.cells #[.slice (some ⟨w1.heap.size, 0, none⟩) 1 1] 34)) = W2 at *
    clear hW2 c0 c1
    go_loopw [20] (fun iv wr => ∃ (i : Nat) (v' : Value), i ≤ n ∧ iv = .int .i64 i ∧ Blk wr (w1.heap.size + 1) 34 #[v'] ∧ Slc wr 9 1 v' (i + 1) (strs (recsN true (l.take i))) ∧ Below w.heap.size w wr ∧ Hid (∀ x ∈ ownB v', w.heap.size ≤ x ∧ x ≠ w1.heap.size + 1)) (fun iv _ => n - (intOf iv).toNat)
    case atStart => exact ⟨0, _, Nat.zero_le _, rfl, BK.out, SK.out, OK.out, Lib.hid (fun x hx => by simp [ownB] at hx; omega)⟩
    case round =>
      obtain ⟨i, v', hi, rfl, B, S, O, F⟩ := hrel
      obtain ⟨VA, vc, rfl⟩ := slc_val S
      have hltr := B.lt
      by_cases h : i < n
      · obtain ⟨ad, e, rfl, he, AT⟩ := (HH.out.below O).at i h
        have HT := Lib.hid (recsN_take true l i e he)
        obtain ⟨q1, q2, q3, q4⟩ := HQ.out i e he
        have KP := Lib.hid (put1_any (w := wr.alloc (.cells #[.string e.key, .string e.val, .int .i64 e.far] 56)) e q1 q2 q3 q4 (B.alloc _) (S.alloc _) (fun hx => (F.out _ hx).2 rfl) (by omega))
        have a0 := AT.c0
        have a1 := AT.c1
        have a2 := AT.c2
        have OO := Lib.hid O
        have SZ := Lib.hid (show w.heap.size ≤ w1.heap.size + 1 from by omega)
        clear AT S B O he
        go_wp2_with fail
        refine KP.out.mono ?_
        rintro r w2 ⟨rfl, v2, B2, S2, o2, f2⟩
        have F2 := Lib.hid (show ∀ x ∈ ownB v2, w.heap.size ≤ x ∧ x ≠ w1.heap.size + 1 from fun x hx => (f2 x hx).elim (F.out x) (fun h => by rw [asz] at h; have := OO.out.size; omega))
        have O2 := Lib.hid ((OO.out.alloc OO.out.size (.cells #[.string e.key, .string e.val, .int .i64 e.far] 56)).trans (o2.below_of (by rw [asz]; have := OO.out.size; omega) (fun x hx => by
          rcases List.mem_cons.1 hx with rfl | hx
          · exact SZ.out
          · exact (F.out x hx).1)))
        rw [← HT.out] at S2
        replace S2 := Lib.hid S2
        replace B2 := Lib.hid B2
        clear o2 f2
        go_wp2_with fail
        go_roundw
        case rel => exact ⟨i + 1, v2, by omega, by go_num, B2.out, S2.out, O2.out, F2⟩
        case measure => simp [intOf]; omega
      · obtain rfl : i = n := by omega
        have hln := hl.out
        rw [List.take_of_length_le (by omega)] at S
        have KO := Lib.hid (of_any (l := recsN true l) (by rw [HL.out, hln]; exact S) (by rw [HL.out]; omega) HS.out)
        have b0 : wr.cell? ⟨w1.heap.size + 1, 0, none⟩ = some (.slice VA (i + 1) vc) := B.cell_some (i := 0) rfl
        have OO := Lib.hid O
        clear S B O hln
        go_wp2_with fail
        refine KO.out.mono ?_
        rintro r w2 ⟨hx, hb2⟩
        have O2 := Lib.hid (bstep OO.out hb2)
        clear hb2
        rcases hx with ⟨h0, T, rfl, sT, rT⟩ | ⟨h0, rfl⟩
        · have HX := Lib.hid (And.intro h0 (And.intro sT rT))
          clear h0 sT rT
          go_wp2_with fail
          go_ret2
          exact ⟨.inl ⟨HX.out.1, T, rfl, HX.out.2.1, HX.out.2.2⟩, O2.out⟩
        · have HX := Lib.hid h0
          clear h0
          go_wp2_with fail
          go_ret2
          exact ⟨.inr ⟨HX.out, rfl⟩, O2.out⟩
end Go.Proofs.Yticehnnbjbliaab.Nd
