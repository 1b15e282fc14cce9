/- slots by its contracts: Compact. -/
import Derived.Test.YticehnnbjbliaabSl6
namespace Go.Proofs.Yticehnnbjbliaab.Sl
open Go.RowKit
attribute [local go_sem ↓] exec_app

theorem size_u8 : (Try.prog.info? 5).map (·.size) = some 1 := by kernel_rfl
theorem lay_nil (F : List UInt8) (o : Nat) : lay F o [] = F := by simp [lay]
theorem putAt_left {l r c : List Value} {o : Nat} (h : o + c.length ≤ l.length) : putAt (l ++ r) o c = putAt l o c ++ r := by
  unfold putAt
  rw [List.take_append_of_le_length (by omega), List.drop_append_of_le_length h]
  simp
/-- copy(b[o:], s), s a text that has room -/
theorem copy_buf {w : World} {g cap : Nat} {F : List UInt8} (B : Buf w (.slice (some ⟨g, 0, none⟩) F.length cap) F) (o oa dCap : Nat) (s : ByteArray) (ho : o + s.size ≤ F.length) (hoa : oa = o ∨ (s.size = 0 ∧ oa ≤ F.length)) (dLen : Nat) (hd : dLen = F.length - o) :
    ∃ w', (Builtin.copy_ #[59, 9] 3 #[.slice (some ⟨g, oa, none⟩) dLen dCap, .string s]).run Try.prog w = .ok (goInt s.size) w' ∧ Buf w' (.slice (some ⟨g, 0, none⟩) F.length cap) (lay F o s.data.toList) ∧ Only [g] w w' := by
  obtain ⟨rest, BB, hc, _, hm⟩ := Slc.blk B
  have hl : (bvs F).length = F.length := bvs_length F
  have hsl : s.data.toList.length = s.size := by simp
  obtain ⟨w', e, B', o'⟩ := copy_string (P := Try.prog) BB 59 9 3 5 oa dLen dCap s s.size Try.underlying59 size_u8 (by rw [hd]; exact (Nat.min_eq_left (by omega)).symm) (by simp; omega)
  refine ⟨w', e, ?_, o'⟩
  rw [List.take_of_length_le (by omega), putAt_left (by simp; omega), bvs_lay] at B'
  have el : lay F oa s.data.toList = lay F o s.data.toList := by
    rcases hoa with rfl | ⟨h0, _⟩
    · rfl
    · have : s.data.toList = [] := List.eq_nil_of_length_eq_zero (by omega)
      rw [this, lay_nil, lay_nil]
  rw [el] at B'
  have hll : (lay F o s.data.toList).length = F.length := lay_length (by omega)
  unfold Buf
  rw [hll]
  exact ⟨by simp [hll], .inr ⟨g, cap, rest, rfl, B', by simp [hll]; simpa using hc, hm⟩⟩
theorem append_slot {w : World} {v : Value} {n : Nat} {l : List Slot} (S : Slc w 81 2 v n (sc l)) (a b : Nat) (hn : n ≤ 1000000) :
    ∃ v' w', appRun Try.prog 78 78 (w.alloc (.cells #[.int .i64 a, .int .i64 b] 81)) v (.slice (some ⟨w.heap.size, 0, none⟩) 1 1) = .ok v' w' ∧ Slc w' 81 2 v' (n + 1) (sc (l ++ [(a, b)])) ∧ Only (ownB v) w w' ∧ (∀ g ∈ ownB v', g ∈ ownB v ∨ w.heap.size ≤ g) := by
  obtain ⟨i0, hi, hz0, hz1, hz2⟩ := info_parts info_slot
  obtain ⟨v', w', ea, S', O', F'⟩ := append_slc (P := Try.prog) (S.alloc (.cells #[.int .i64 a, .int .i64 b] 81)) 78 78 i0 (.agg #[.int .i64 0, .int .i64 0]) 16 Try.underlying78 hi hz0 hz1 hz2 rfl (by omega)
    ⟨w.heap.size, 0, none⟩ 1 1 [.int .i64 a, .int .i64 b] rfl (cells_at (l := [_, _]) (Blk.new _ _ _) 0 _ (by simp)) (by intro u hu; simp at hu; rcases hu with rfl | rfl <;> rfl) (by unfold maxLen; omega) (by omega)
  rw [show sc l ++ [.int .i64 (a : Int), .int .i64 (b : Int)] = sc (l ++ [(a, b)]) from by rw [sc_append]; rfl] at S'
  exact ⟨v', w', ea, S', ((Only.refl _ _).alloc _).trans_of O' (fun x hx _ => hx), fun g hg => (F' g hg).imp id (fun h => by simp at h; omega)⟩
theorem buf_ownB {w : World} {g n c : Nat} {F : List UInt8} {e : TypeId} {size m : Nat} {v : Value} {l : List Value} (h : Slc w e size v m l) (B : Buf w (.slice (some ⟨g, 0, none⟩) n c) F) (hne : e ≠ 5) : ∀ x ∈ ownB v, x ∉ [g] := by
  have := slc_ne h B hne
  simpa [ownB] using this
def compTo (b : List UInt8) (k : Nat) : Comp := ((recs b).take k).foldl Comp.add comp0
theorem compTo_succ (b : List UInt8) (k : Nat) (h : k < at2 b 0) : compTo b (k + 1) = (compTo b k).add (rec1 b (slot b k)) := by
  unfold compTo
  rw [recs_take b k h, List.foldl_append]; rfl
theorem compTo_all (b : List UInt8) : compTo b (at2 b 0) = compF (recs b) := by
  unfold compTo compF
  rw [List.take_of_length_le (by rw [recs_length]; exact Nat.le_refl _)]
theorem sum_take_le (l : List Nat) : ∀ k, (l.take k).sum ≤ l.sum := by
  induction l with
  | nil => intro k; simp
  | cons x l ih =>
    intro k
    cases k with
    | zero => simp
    | succ k => simp only [List.take_succ_cons, List.sum_cons]; have := ih k; omega
theorem compTo_ok {b : List UInt8} (h : Sound b) (k : Nat) : (compTo b k).Ok ((recs b).take k) := by
  refine compF_ok _ ?_
  rw [List.map_take]
  have := sum_take_le ((recs b).map List.length) k
  have := h.sum
  omega
theorem compTo_room {b : List UInt8} (h : Sound b) (k : Nat) (hk : k < at2 b 0) : (rec1 b (slot b k)).length ≤ (compTo b k).heap := by
  have h1 := (compTo_ok h k).heap
  have h2 := (compTo_ok h (k + 1)).heap
  rw [recs_take b k hk, List.map_append, List.sum_append] at h2
  simp only [List.map_cons, List.map_nil, List.sum_cons, List.sum_nil] at h2
  omega
def compactG (b : List UInt8) : List UInt8 × Int := if checkF b = 0 then (compactF b, 0) else ([], checkF b)
set_option maxRecDepth 100000 in
set_option maxHeartbeats 4000000 in
theorem compact_any (s : ByteArray) (w : World) (hs : s.size ≤ 1000000) :
    Calls Try.prog 48 #[.string s] w fun e w' => e = .returned (.tuple #[.string ⟨(compactG s.data.toList).1.toArray⟩, .int .i64 (compactG s.data.toList).2]) ∧ Below w.heap.size w w' := by
  have KA := Lib.hid (all_any s w hs)
  by_cases h : checkF s.data.toList = 0
  · have hS := (checkF_ok _).1 h
    have e1 : compactG s.data.toList = (compactF s.data.toList, 0) := by unfold compactG; rw [if_pos h]
    rw [e1]
    clear e1
    have hl2 : s.size = 232 := by have := hS.len; simpa using this
    have h4 := hS.head
    have h5 := hS.heap
    have HC := Lib.hid h
    have hlist : (recs s.data.toList).length = at2 s.data.toList 0 := recs_length _
    have HGET := Lib.hid (show ∀ k, k < at2 s.data.toList 0 → (strs (recs s.data.toList))[k]? = some (.string ⟨(rec1 s.data.toList (slot s.data.toList k)).toArray⟩) from fun k hk => by
      simp [strs, recs, slots, hk])
    have HSU := Lib.hid (compTo_succ s.data.toList)
    have HOK := Lib.hid (fun k => compTo_ok hS k)
    have HRM := Lib.hid (fun k hk => compTo_room hS k hk)
    have HCF := Lib.hid (show compactF s.data.toList = withF (compTo s.data.toList (at2 s.data.toList 0)).out (compTo s.data.toList (at2 s.data.toList 0)).to (compTo s.data.toList (at2 s.data.toList 0)).heap from by rw [compTo_all]; rfl)
    have HLA := Lib.hid hS.comp
    have HAL := Lib.hid (compTo_all s.data.toList)
    have H0 := Lib.hid (show compTo s.data.toList 0 = comp0 from rfl)
    clear h hS hlist hl2
    generalize hn : at2 s.data.toList 0 = n at *
    have HN0 := Lib.hid hn
    clear hn
    have hmk : Hid (∀ w' : World, (Instr.makeSlice 59 (.int .i64 232) (.int .i64 232)).run Try.prog w' = .ok (.slice (some ⟨w'.heap.size, 0, none⟩) 232 232) (w'.alloc (.cells (bvs (List.replicate 232 0)).toArray 5))) := Lib.hid (fun w' : World => make_bytes 232 (by omega) w')
    have HZ := Lib.hid (show comp0 = ⟨List.replicate 232 0, [], 232⟩ from rfl)
    have HZL := Lib.hid (show (List.replicate 232 (0 : UInt8)).length = 232 from List.length_replicate)
    generalize List.replicate 232 (0 : UInt8) = Z at *
    go_enter Try.func48, Try.ntmps48
    go_wp2_with fail
    refine KA.out.mono ?_
    rintro e w1 ⟨v, rfl, hb1, fr, hv⟩
    rcases hv with ⟨-, T⟩ | ⟨hne, -⟩
    · rw [HC.out]
      rw [HN0.out] at T
      obtain ⟨A, c, rfl⟩ := slc_val T
      have hm := hmk.out
      have B0 := Lib.hid (Buf.new w1 Z (by rw [HZL.out]; unfold maxLen; omega))
      rw [HZL.out] at B0
      have b0 := (Below.refl w1.heap.size w1).alloc (Nat.le_refl _) (.cells (bvs Z).toArray 5)
      have T0 := Lib.hid (T.below b0)
      have O0 := Lib.hid (bstep hb1 b0)
      have hg := hb1.size
      clear b0 T hb1 fr hmk KA
      go_wp2_with fail
      generalize w1.alloc (.cells (bvs Z).toArray 5) = W at *
      generalize w1.heap.size = g at *
      clear hm
      go_loopw [7, 8, 22] (fun v hv iv wr => ∃ k : Nat, k ≤ n ∧ iv = .int .i64 k ∧ hv = .int .i64 (compTo s.data.toList k).heap ∧ Buf wr (.slice (some ⟨g, 0, none⟩) 232 232) (compTo s.data.toList k).out ∧ Slc wr 81 2 v k (sc (compTo s.data.toList k).to) ∧ Slc wr 9 1 (.slice A n c) n (strs (recs s.data.toList)) ∧ Below w.heap.size w wr ∧ Hid (∀ g ∈ ownB v, w.heap.size ≤ g)) (fun _ _ iv _ => n - (intOf iv).toNat)
      case atStart => exact ⟨0, Nat.zero_le _, rfl, by rw [H0.out]; rfl, by rw [H0.out, HZ.out]; exact B0.out, by rw [H0.out]; exact Slc.nil _ _ _, T0.out, O0.out, Lib.hid (by simp [ownB])⟩
      case round =>
        obtain ⟨k, hk, rfl, rfl, B, S, T, O, F⟩ := hrel
        obtain ⟨SA, cS, rfl⟩ := slc_val S
        have hout := (HOK.out k).len
        have hsum := (HOK.out k).heap
        by_cases h : k < n
        · obtain ⟨gT, cT, restT, hv, BT, hcap, -⟩ := T.form (by omega) (by omega)
          simp only [Value.slice.injEq, true_and] at hv
          obtain ⟨rfl, rfl⟩ := hv
          have ck : wr.cell? ⟨gT, k, none⟩ = some (.string ⟨(rec1 s.data.toList (slot s.data.toList k)).toArray⟩) := BT.cell_some (by
            have h1 := HGET.out k h
            rw [List.getElem?_toArray, List.getElem?_append_left (List.getElem?_eq_some_iff.1 h1).1]; exact h1)
          have hrm := HRM.out k h
          have HS := Lib.hid (HSU.out k h)
          have TT := Lib.hid T
          have OO := Lib.hid O
          have SS := Lib.hid S
          clear T O S BT
          generalize rec1 s.data.toList (slot s.data.toList k) = r at *
          have HCk := Lib.hid (show compTo s.data.toList (k + 1) = ⟨lay (compTo s.data.toList k).out ((compTo s.data.toList k).heap - r.length) r, (compTo s.data.toList k).to ++ [((compTo s.data.toList k).heap - r.length, r.length)], (compTo s.data.toList k).heap - r.length⟩ from HS.out)
          generalize compTo s.data.toList k = C at *
          obtain ⟨out, to, heap⟩ := C
          simp only at hrm B HCk SS hout hsum
          have hhp : heap ≤ 232 := by omega
          clear hsum
          obtain ⟨R, rfl⟩ : ∃ R : ByteArray, R.data.toList = r := ⟨⟨r.toArray⟩, by simp⟩
          have hRR : (⟨R.data.toList.toArray⟩ : ByteArray) = R := by simp
          have hRl : R.data.toList.length = R.size := by simp
          rw [hRR] at ck
          rw [hRl] at hrm HCk
          obtain ⟨h', rfl⟩ : ∃ h', heap = h' + R.size := ⟨heap - R.size, by omega⟩
          rw [Nat.add_sub_cancel] at HCk
          have HB := Lib.hid B
          rw [← hout] at B
          have KCP := Lib.hid (fun (oa : Nat) (hoa : oa = h' ∨ (R.size = 0 ∧ oa ≤ 232)) (dCap : Nat) => copy_buf B h' oa dCap R (by omega) (by rw [hout]; exact hoa) (232 - h') (by omega))
          rw [hout] at KCP
          clear B hout hRR hRl HS
          have NS := Lib.hid (buf_ownB SS.out HB.out (by decide))
          have NT := Lib.hid (buf_ownB TT.out HB.out (by decide))
          have KX := Lib.hid (show ∃ (oa dc : Nat) (w5 : World), ((h' = 232 ∧ oa = 0 ∧ dc = 0) ∨ (h' ≠ 232 ∧ oa = h' ∧ dc = 232 - h')) ∧ (Builtin.copy_ #[59, 9] 3 #[.slice (some ⟨g, oa, none⟩) (232 - h') dc, .string R]).run Try.prog wr = .ok (goInt R.size) w5 ∧ Buf w5 (.slice (some ⟨g, 0, none⟩) 232 232) (lay out h' R.data.toList) ∧ Only [g] wr w5 from by
            by_cases hz : h' = 232
            · obtain ⟨w5, h1, h2, h3⟩ := KCP.out 0 (.inr ⟨by omega, by omega⟩) 0
              exact ⟨0, 0, w5, .inl ⟨hz, rfl, rfl⟩, h1, h2, h3⟩
            · obtain ⟨w5, h1, h2, h3⟩ := KCP.out h' (.inl rfl) (232 - h')
              exact ⟨h', 232 - h', w5, .inr ⟨hz, rfl, rfl⟩, h1, h2, h3⟩)
          obtain ⟨oa, dc, w5, hoa, cp, B5, o5⟩ := KX.out
          have S5 := SS.out.only o5 NS.out
          have T5 := TT.out.only o5 NT.out
          have O5 := Lib.hid (OO.out.trans (o5.below_of OO.out.size (by simp; exact hg)))
          obtain ⟨v6, w6, ea, S6, o6, F6⟩ := append_slot S5 h' R.size (by omega)
          obtain ⟨VA, vc, rfl⟩ := slc_val S6
          have B6 := Lib.hid (B5.only o6 (fun x hx hx' => slc_ne S5 B5 (by decide) x hx' hx))
          have T6 := Lib.hid (T5.only o6 (slc_ne T5 S5 (by decide)))
          have O6 := Lib.hid (O5.out.trans (o6.below_of O5.out.size F.out))
          have F7 := Lib.hid (show ∀ g ∈ ownB (.slice VA (k + 1) vc), w.heap.size ≤ g from fun g hg => (F6 g hg).elim (F.out g) (fun h => Nat.le_trans O5.out.size h))
          have S6 := Lib.hid S6
          clear KX B5 o5 S5 T5 o6 F6 KCP NS NT HB
          rcases hoa with ⟨rfl, rfl, rfl⟩ | ⟨hz, rfl, rfl⟩
          all_goals
            try simp only [show ((232 : Nat) : Int) = 232 from rfl] at ea
            go_wp2_with fail
            go_roundw
            case rel => exact ⟨k + 1, by omega, by go_num, by rw [HCk.out] <;> rfl, by rw [HCk.out]; exact B6.out, by rw [HCk.out]; exact S6.out, T6.out, O6.out, F7⟩
            case measure => simp [intOf]; omega
        · have hkn := Lib.hid (show k = n by omega)
          obtain rfl : k = n := hkn.out
          have HL := Lib.hid HLA.out
          have HTL := Lib.hid (HOK.out k).to_len
          rw [← HAL.out] at HL
          have KW := Lib.hid (with_any B (SlRd.of S) (compTo s.data.toList k).heap hout (by have h1 := HL.out.head; have h2 := HL.out.hh; omega) (by omega) (by have := HL.out.hh; omega) HL.out.small)
          rw [Int.toNat_natCast, ← HCF.out] at KW
          have hgg := hg
          have OO := Lib.hid O
          have hlt2 : (compTo s.data.toList k).heap ≤ 232 := HL.out.hh
          clear B S T O HL
          generalize compTo s.data.toList k = C at *
          go_wp2_with fail
          refine KW.out.mono ?_
          rintro e w5 ⟨rfl, o5⟩
          have O6 := Lib.hid (OO.out.trans (o5.below_of OO.out.size (by simpa [ownB] using hgg)))
          clear o5
          go_wp2_with fail
          go_ret2
          exact ⟨rfl, O6.out⟩
    · exact absurd HC.out hne
  · have HC := Lib.hid h
    have hb : (checkF s.data.toList == 0) = false := by simpa using h
    have e1 : compactG s.data.toList = ([], checkF s.data.toList) := by unfold compactG; rw [if_neg h]
    rw [e1]
    clear h e1
    unfold AllTold at KA
    generalize checkF s.data.toList = q at *
    go_enter Try.func48, Try.ntmps48
    go_wp2_with fail
    refine KA.out.mono ?_
    rintro e w1 ⟨v, rfl, hb1, fr, hv⟩
    rcases hv with ⟨h0, -⟩ | ⟨-, rfl⟩
    · exact absurd h0 HC.out
    · have O := Lib.hid hb1
      clear hb1 fr
      go_wp2_with fail
      go_ret2
      exact ⟨rfl, O.out⟩
end Go.Proofs.Yticehnnbjbliaab.Sl
