/- slots by its contracts: Delete whole. -/
import Derived.Test.YticehnnbjbliaaaSl10
namespace Go.Proofs.Yticehnnbjbliaaa.Sl
open Go.RowKit
attribute [local go_sem ↓] Go.wp_at_zero Go.wp_at_succ
attribute [local go_sem ↓] exec_app

/-- append(l[:i:i], l[i+1:]..) -/
theorem append_del {w : World} {g n c : Nat} {l : List Slot} (S : Slc w 56 2 (.slice (some ⟨g, 0, none⟩) n c) n (sc l)) (i : Nat) (hi : i < n) (hn : n ≤ 1000000) (o cc : Nat) (ho : o = (i + 1) * 2 ∨ n - (i + 1) = 0) :
    ∃ X z cz w', appRun Try.prog 51 51 w (.slice (some ⟨g, 0, none⟩) i i) (.slice (some ⟨g, o, none⟩) (n - (i + 1)) cc) = .ok (.slice X z cz) w' ∧ SlRd w' (.slice X z cz) (l.take i ++ l.drop (i + 1)) ∧ Below w.heap.size w w' := by
  obtain ⟨i0, hi0, hz0, hz1, hz2⟩ := info_parts_slot
  have hl := S.1
  rw [sc_length] at hl
  obtain ⟨rest, B, hc, -, -⟩ := S.blk
  have hll : l.length = n := by omega
  have hdl : (l.drop (i + 1)).length = n - (i + 1) := by rw [List.length_drop]; omega
  have hcells : ∀ j u, (sc (l.drop (i + 1)))[j]? = some u → w.cell? ((⟨g, o, none⟩ : Addr).add j) = some u := cells_at B o _ (by
    intro j u hu
    have hj : j < (sc (l.drop (i + 1))).length := (List.getElem?_eq_some_iff.1 hu).1
    rw [sc_length] at hj
    rcases ho with rfl | h0
    · have hti : (sc (l.take (i + 1))).length = (i + 1) * 2 := by rw [sc_length, List.length_take]; omega
      rw [sc_split l (i + 1), List.append_assoc, List.getElem?_append_right (by omega), hti, Nat.add_sub_cancel_left, List.getElem?_append_left (by rw [sc_length]; exact hj)]
      exact hu
    · omega)
  rcases Nat.eq_zero_or_pos (n - (i + 1)) with hz | hp
  · have hd : l.drop (i + 1) = [] := List.eq_nil_of_length_eq_zero (by omega)
    rw [hd, List.append_nil, hz]
    have hrun := run_append_room_cells (P := Try.prog) w 51 51 56 i0 Try.underlying51 hi0 g 0 i i ⟨g, o, none⟩ 0 cc [] (by simp) (by simp) (by simp) (by omega) (fun j hj => by simp at hj) (fun j hj => by simp at hj)
    rw [Nat.add_zero] at hrun
    refine ⟨_, _, _, w, hrun, ?_, Below.refl _ _⟩
    refine ⟨_, i, by rw [List.length_take, hll, Nat.min_eq_left (by omega)], fun hp => ⟨g, _, rfl, B, fun j u hu => ?_⟩⟩
    have hj : j < (sc (l.take i)).length := (List.getElem?_eq_some_iff.1 hu).1
    rw [List.getElem?_toArray, sc_split l i, List.append_assoc, List.getElem?_append_left hj]
    exact hu
  · obtain ⟨v', w', h1, h2, h3, _⟩ := append_cutN S i (by omega) hn ⟨g, o, none⟩ cc (l.drop (i + 1)) (by omega) (by omega) hcells
    rw [hdl] at h1
    obtain ⟨X, cz, rfl⟩ := slc_val h2
    exact ⟨_, _, _, w', h1, SlRd.of h2, h3⟩
set_option maxRecDepth 100000 in
set_option maxHeartbeats 4000000 in
theorem delete_ok (s : ByteArray) (i : Nat) (w : World) (hs : Sound s.data.toList) (hi : i < at2 s.data.toList 0) :
    Calls Try.prog 17 #[.string s, .int .i64 i] w fun e w' => e = .returned (.tuple #[.string ⟨(delF s.data.toList i).toArray⟩, .int .i64 0]) ∧ Below w.heap.size w w' := by
  have hl2 : s.size = 232 := by have := hs.len; simpa using this
  have h4 := hs.head
  have h5 := hs.heap
  have hc0 := (checkF_ok _).2 hs
  have KC := Lib.hid (fun w' => check_any s w' (by omega))
  have KL := Lib.hid (fun w' => list_any s w' (by omega) (by omega))
  have K2 := Lib.hid (fun w' => two_any s 2 w' (by omega) (by omega) (by omega))
  rw [hc0] at KC
  simp only [show (2 : Int).toNat = 2 from rfl] at K2
  have HSL := Lib.hid (slots_length s.data.toList)
  have hx : ∀ x ∈ (slots s.data.toList).take i ++ (slots s.data.toList).drop (i + 1), x.1 < 65536 ∧ x.2 < 65536 := fun x hx => by
    have hm : x ∈ slots s.data.toList := by
      rcases List.mem_append.1 hx with h | h
      · exact List.mem_of_mem_take h
      · exact List.mem_of_mem_drop h
    have := (hs.fit.lies x hm).2
    omega
  have HX := Lib.hid hx
  have HL := Lib.hid (show 4 + 4 * ((slots s.data.toList).take i ++ (slots s.data.toList).drop (i + 1)).length ≤ 232 from by
    rw [List.length_append, List.length_take, List.length_drop, slots_length]; omega)
  have HF := Lib.hid (show delF s.data.toList i = withF s.data.toList ((slots s.data.toList).take i ++ (slots s.data.toList).drop (i + 1)) (at2 s.data.toList 2) from rfl)
  have HSZ := Lib.hid hl2
  have hsz : s.size ≤ 1000000 := by omega
  clear hx hc0 hl2 hs
  generalize delF s.data.toList i = RES at *
  generalize hLL : (slots s.data.toList).take i ++ (slots s.data.toList).drop (i + 1) = L at *
  have HLL := Lib.hid hLL
  clear hLL
  have hb2 := at2_lt s.data.toList 2
  generalize at2 s.data.toList 0 = n at *
  generalize at2 s.data.toList 2 = heap at *
  have hn6 : n ≤ 1000000 := by omega
  have e1 : IntKind.i64.wrap ((i : Int) + 1) = (i : Int) + 1 := IntWalk.i64_in _ (by omega)
  have e2 : (0 : Int) ≤ (i : Int) + 1 := by omega
  have e3 : ((i : Int) + 1).toNat = i + 1 := by omega
  have E1 := Lib.hid e1
  clear e1
  go_enter Try.func17, Try.ntmps17
  go_wp2_with fail
  refine (KC.out _).mono ?_
  rintro e w1 ⟨rfl, hb1⟩
  have O1 := Lib.hid hb1
  clear hb1
  go_wp2_with fail
  refine (KL.out _).mono ?_
  rintro e w2 ⟨v, rfl, S2, hb2, -⟩
  obtain ⟨A, c, rfl⟩ := slc_val S2
  have O2 := Lib.hid (bstep O1.out hb2)
  obtain ⟨cap, w3, e8, B3, hb3⟩ := buf_of_string s w2 hsz
  have S3 := S2.below hb3
  have O3 := Lib.hid (bstep O2.out hb3)
  have E8 := Lib.hid e8
  clear hb2 hb3 S2 e8
  go_wp2_with fail
  rw [E8.out]
  have HB := Lib.hid (fun (w' : World) (h : Below w3.heap.size w3 w') => Buf.below B3 h)
  have HS := Lib.hid (fun (w' : World) (h : Below w3.heap.size w3 w') => Slc.below S3 h)
  have hgw := Lib.hid (show ∀ x ∈ ownB (.slice (some ⟨w2.heap.size, 0, none⟩) s.size cap), w.heap.size ≤ x from by simpa [ownB] using O2.out.size)
  have D3 : Below w3.heap.size w3 w3.drew := (Below.refl _ _).drew
  obtain ⟨g, cg, rest, hv, -, hnc, -⟩ := S3.form (by omega) (by omega)
  simp only [Value.slice.injEq, true_and] at hv
  obtain ⟨rfl, rfl⟩ := hv
  obtain ⟨oa, cc, hoa⟩ : ∃ oa cc, (c = i + 1 ∧ n = i + 1 ∧ oa = 0 ∧ cc = 0) ∨ (c ≠ i + 1 ∧ i + 1 < c ∧ oa = (i + 1) * 2 ∧ cc = c - (i + 1)) := by
    by_cases hci : c = i + 1
    · exact ⟨0, 0, .inl ⟨hci, by omega, rfl, rfl⟩⟩
    · exact ⟨_, _, .inr ⟨hci, by omega, rfl, rfl⟩⟩
  have hoo : oa = (i + 1) * 2 ∨ n - (i + 1) = 0 := by rcases hoa with ⟨h1, h2, -, -⟩ | ⟨-, -, h1, -⟩ <;> omega
  have HAP := Lib.hid (fun (w' : World) (h : Below w3.drew.heap.size w3.drew w') => append_del (HS.out _ (bstep D3 h)) i hi hn6 oa cc hoo)
  rw [HLL.out] at HAP
  obtain ⟨X, z, cz, wa, ea, Ra, hba⟩ := HAP.out _ (Below.refl _ _)
  have O3d := Lib.hid (bstep O3.out D3)
  have RA := Lib.hid Ra
  have BA := Lib.hid (HB.out _ (bstep D3 hba))
  have OA := Lib.hid (bstep O3d.out hba)
  have HW := Lib.hid (fun (w' : World) (vl : Value) (B : Buf w' (.slice (some ⟨w2.heap.size, 0, none⟩) s.size cap) s.data.toList) (R : SlRd w' vl L) => with_any B R heap (by have := HSZ.out; simpa using this) HL.out (by omega) (by omega) HX.out)
  have HB3 := Lib.hid (fun (w' : World) (h : Below w3.drew.heap.size w3.drew w') => HB.out _ (bstep D3 h))
  have D3 := Lib.hid D3
  have hl2 : (2 : Nat) = 2 := rfl
  clear S3 B3 Ra hb2 KC KL hba hoo hl2
  rcases hoa with ⟨rfl, rfl, rfl, rfl⟩ | ⟨hci, hci2, rfl, rfl⟩
  all_goals
    try simp only [Nat.sub_self] at ea HAP
    go_wp2_with fail
    have e1 := E1.out
    go_region_with (first | (go_at_call 29; refine (K2.out _).mono ?_; rintro e w9 ⟨rfl, hb9⟩; (first | (obtain ⟨X9, z9, cz9, wb, eb, Rb, hbb⟩ := HAP.out w9 hb9; have RW := Lib.hid Rb; have BW := Lib.hid (HB3.out _ (bstep hb9 hbb)); have OW := Lib.hid (bstep (bstep O3d.out hb9) hbb); have KW := Lib.hid (HW.out _ _ BW.out RW.out); clear Rb hbb hb9) | (have RW := Lib.hid (SlRd.below RA.out hb9); have BW := Lib.hid (Buf.below BA.out hb9); have OW := Lib.hid (bstep OA.out hb9); have KW := Lib.hid (HW.out _ _ BW.out RW.out); clear hb9))) | (go_at_call 30; refine KW.out.mono ?_; rintro e w10 ⟨rfl, o10⟩; have O10 := Lib.hid (OW.out.trans (o10.below_of OW.out.size hgw.out)); clear o10))
    all_goals
      go_wp2_with fail
      go_ret2
      refine ⟨?_, O10.out⟩
      first | rfl | (rw [HF.out]; rfl)
theorem delete_any (s : ByteArray) (i : Int) (w : World) (hs : s.size ≤ 1000000) :
    Calls Try.prog 17 #[.string s, .int .i64 i] w fun e w' => e = .returned (.tuple #[.string ⟨(delG s.data.toList i).1.toArray⟩, .int .i64 (delG s.data.toList i).2]) ∧ Below w.heap.size w w' := by
  by_cases h : checkF s.data.toList = 0 ∧ 0 ≤ i ∧ i < (at2 s.data.toList 0 : Int)
  · obtain ⟨h1, h2, h3⟩ := h
    have e1 : delG s.data.toList i = (delF s.data.toList i.toNat, 0) := by unfold delG; rw [if_pos h1, if_pos ⟨h2, h3⟩]
    rw [e1]
    obtain ⟨k, rfl⟩ := Int.eq_ofNat_of_zero_le h2
    rw [Int.toNat_natCast]
    exact delete_ok s k w ((checkF_ok _).1 h1) (by omega)
  · exact delete_no s i w hs h
end Go.Proofs.Yticehnnbjbliaaa.Sl
