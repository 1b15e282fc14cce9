/- slots by its contracts: Insert. -/
import Derived.Test.YticehnnbjbliaabSl8
namespace Go.Proofs.Yticehnnbjbliaab.Sl
open Go.RowKit
attribute [local go_sem ↓] exec_app

def insG (b : List UInt8) (i : Int) (r : List UInt8) : List UInt8 × Int :=
  if checkF b = 0 then (if 0 ≤ i ∧ i ≤ (at2 b 0 : Int) then (if (r.length : Int) ≤ roomF b - 4 then (insF b i.toNat r, 0) else ([], 11)) else ([], 3)) else ([], checkF b)
theorem baseF_no {b r : List UInt8} (h : ¬ 4 + 4 * (at2 b 0 + 1) + r.length > at2 b 2) : baseF b r = b := by unfold baseF; rw [if_neg h]
theorem baseF_yes {b r : List UInt8} (h : 4 + 4 * (at2 b 0 + 1) + r.length > at2 b 2) : baseF b r = compactF b := by unfold baseF; rw [if_pos h]
/-- []byte(s), as bytes of the call's own -/
theorem buf_of_string (s : ByteArray) (w : World) (hs : s.size ≤ 1000000) :
    ∃ cap w', (convert 9 59 (.string s)).run Try.prog w = .ok (.slice (some ⟨w.heap.size, 0, none⟩) s.size cap) w' ∧ Buf w' (.slice (some ⟨w.heap.size, 0, none⟩) s.size cap) s.data.toList ∧ Below w.heap.size w w' := by
  obtain ⟨cap, w1, e1, S1, hb1⟩ := bytes_of_string (P := Try.prog) w 9 59 5 s Try.underlying9 Try.underlying59 Try.underlying5 (by unfold maxLen; omega)
  refine ⟨cap, w1, e1, ?_, hb1⟩
  unfold Buf
  rw [show s.data.toList.length = s.size from by simp]
  exact S1
/-- what Insert is about to lay -/
theorem insert_plan {b r : List UInt8} (h : Sound b) (i : Nat) (hr : (r.length : Int) ≤ roomF b - 4) (hi : i ≤ at2 b 0) :
    ∃ t : List UInt8, t = baseF b r ∧ Sound t ∧ at2 t 0 = at2 b 0 ∧ 4 + 4 * (at2 b 0 + 1) + r.length ≤ at2 t 2 ∧
      insF b i r = withF (lay t (at2 t 2 - r.length) r) (((slots t).take i ++ [(at2 t 2 - r.length, r.length)]) ++ (slots t).drop i) (at2 t 2 - r.length) ∧
      Laid (lay t (at2 t 2 - r.length) r) (((slots t).take i ++ [(at2 t 2 - r.length, r.length)]) ++ (slots t).drop i) (at2 t 2 - r.length) := by
  obtain ⟨hs, he, h0, hh⟩ := h.base r hr
  refine ⟨_, rfl, hs, h0, hh, ?_, ?_⟩
  · unfold insF; simp
  · rw [List.append_assoc]
    exact Laid.insert hs i r (by rw [h0]; exact hh) (by rw [h0]; exact hi)
set_option maxRecDepth 100000 in
set_option maxHeartbeats 4000000 in
theorem insert_ok (s r : ByteArray) (i : Nat) (w : World) (hs : Sound s.data.toList) (hr : (r.size : Int) ≤ roomF s.data.toList - 4) (hi : i ≤ at2 s.data.toList 0) :
    Calls Try.prog 40 #[.string s, .int .i64 i, .string r] w fun e w' => e = .returned (.tuple #[.string ⟨(insF s.data.toList i r.data.toList).toArray⟩, .int .i64 0]) ∧ Below w.heap.size w w' := by
  have hl2 : s.size = 232 := by have := hs.len; simpa using this
  have h4 := hs.head
  have h5 := hs.heap
  have hrl : r.data.toList.length = r.size := by simp
  obtain ⟨t, ht, tS, t0, t2, hF, hLaid⟩ := insert_plan hs i (r := r.data.toList) (by rw [hrl]; exact hr) hi
  rw [hrl] at t2 hF hLaid
  rw [hF]
  have hc0 := (checkF_ok _).2 hs
  have hro : roomG s.data.toList = roomF s.data.toList := by unfold roomG; rw [if_pos hc0]
  have hrle : roomF s.data.toList ≤ 228 := by unfold roomF; omega
  have KC := Lib.hid (fun w' => check_any s w' (by omega))
  have KL := Lib.hid (fun w' => list_any s w' (by omega) (by omega))
  have KR := Lib.hid (fun w' => room_any s w' (by omega))
  have K2 := Lib.hid (fun w' => two_any s 2 w' (by omega) (by omega) (by omega))
  have KM := Lib.hid (fun w' => compact_any s w' (by omega))
  have hcg : compactG s.data.toList = (compactF s.data.toList, 0) := by unfold compactG; rw [if_pos hc0]
  rw [hcg] at KM
  rw [hc0] at KC
  rw [hro] at KR
  simp only [show (2 : Int).toNat = 2 from rfl] at K2
  obtain ⟨T, rfl⟩ : ∃ T : ByteArray, T.data.toList = t := ⟨⟨t.toArray⟩, by simp⟩
  have hTl : T.size = 232 := by have := tS.len; simpa using this
  have tH := tS.heap
  have KLT := Lib.hid (fun w' => list_any T w' (by rw [t0]; omega) (by omega))
  have K2T := Lib.hid (fun w' => two_any T 2 w' (by omega) (by omega) (by omega))
  simp only [show (2 : Int).toNat = 2 from rfl] at K2T
  rw [t0] at KLT
  have HSL := Lib.hid (slots_length T.data.toList)
  rw [t0] at HSL
  obtain ⟨h', hh'⟩ : ∃ h', at2 T.data.toList 2 = h' + r.size := ⟨at2 T.data.toList 2 - r.size, by omega⟩
  rw [hh', Nat.add_sub_cancel] at hLaid
  rw [hh', Nat.add_sub_cancel]
  rw [hh'] at tH t2 K2T
  have hb0 : at2 s.data.toList 0 < 65536 := at2_lt _ _
  have HLaid := Lib.hid hLaid
  have HT := Lib.hid ht
  have HCB := Lib.hid (show 4 + 4 * (at2 s.data.toList 0 + 1) + r.size > at2 s.data.toList 2 → (⟨(compactF s.data.toList).toArray⟩ : ByteArray) = T from fun hg => by
    rw [baseF_yes (by rw [hrl]; exact hg)] at ht
    rw [← ht])
  have HCN := Lib.hid (show ¬ 4 + 4 * (at2 s.data.toList 0 + 1) + r.size > at2 s.data.toList 2 → s = T from fun hg => by
    rw [baseF_no (by rw [hrl]; exact hg)] at ht
    apply ByteArray.ext
    apply Array.toList_inj.1
    exact ht.symm)
  have HTL := Lib.hid hTl
  have hTl1 : T.size ≤ 1000000 := by omega
  clear ht tS hF hLaid hc0 hro hcg hl2 hrl hh' hTl t0 hs
  generalize at2 s.data.toList 0 = n at *
  generalize at2 s.data.toList 2 = heap at *
  generalize roomF s.data.toList = room at *
  go_enter Try.func40, Try.ntmps40
  go_wp2_with fail
  refine (KC.out _).mono ?_
  rintro e w1 ⟨rfl, hb1⟩
  have O1 := Lib.hid hb1
  clear hb1
  go_wp2_with fail
  refine (KL.out _).mono ?_
  rintro e w2 ⟨v, rfl, S2, hb2, fr2⟩
  have O2 := Lib.hid (bstep O1.out hb2)
  have hS2 := Lib.hid S2
  obtain ⟨A2, c2, rfl⟩ := slc_val S2
  have FR2 := Lib.hid (show ∀ g ∈ ownB (.slice A2 n c2), w.heap.size ≤ g from fun g hg => Nat.le_trans O1.out.size (fr2 g hg))
  clear S2 hb2 fr2
  go_wp2_with fail
  refine (KR.out _).mono ?_
  rintro e w3 ⟨rfl, hb3⟩
  have O3 := Lib.hid (bstep O2.out hb3)
  have S3 := Lib.hid (hS2.out.below hb3)
  clear hb3 hS2
  go_wp2_with fail
  refine (K2.out _).mono ?_
  rintro e w4 ⟨rfl, hb4⟩
  have O4 := Lib.hid (bstep O3.out hb4)
  have S4 := Lib.hid (S3.out.below hb4)
  clear hb4 S3 O3 O2 O1
  by_cases hg : 4 + 4 * (n + 1) + r.size > heap
  · have e1 := HCB.out hg
    rw [e1] at KM
    clear e1
    have hg1 : heap < 4 + 4 * (n + 1) + r.size := hg
    clear hg HCB HCN
    go_wp2_with fail
    refine (KM.out _).mono ?_
    rintro e w5 ⟨rfl, hb5⟩
    have O5 := Lib.hid (bstep O4.out hb5)
    clear hb5 O4
    go_wp2_with fail
    refine (KLT.out _).mono ?_
    rintro e w6 ⟨v, rfl, S6, hb6, fr6⟩
    have O6 := Lib.hid (bstep O5.out hb6)
    obtain ⟨A, c, rfl⟩ := slc_val S6
    have S := Lib.hid S6
    have FR := Lib.hid (show ∀ g ∈ ownB (.slice A n c), w.heap.size ≤ g from fun g hg => Nat.le_trans O5.out.size (fr6 g hg))
    clear S6 hb6 fr6 O5 S4
    go_wp2_with fail
    refine (K2T.out _).mono ?_
    rintro e w7 ⟨rfl, hb7⟩
    have O7 := Lib.hid (bstep O6.out hb7)
    have S7 := Lib.hid (S.out.below hb7)
    clear hb7 S O6 hg1 KM K2 KC KL KR K2T KLT
    obtain ⟨cap, w8, e8, B8, hb8⟩ := buf_of_string T w7 (by omega)
    rw [HTL.out] at e8 B8
    have E8 := Lib.hid e8
    have O8 := Lib.hid (bstep O7.out hb8)
    have S8 := S7.out.below hb8
    have hgw := Nat.le_trans O7.out.size (Nat.le_refl w7.heap.size)
    have hTlen : T.data.toList.length = 232 := by have := HTL.out; simpa using this
    have NS := Lib.hid (buf_ownB S8 B8 (by decide))
    have hcap : 232 ≤ cap := by obtain ⟨rest, _, h2, _⟩ := Slc.blk B8; rw [bvs_length, hTlen] at h2; omega
    obtain ⟨oa, dc, w9, hoa, cp, B9, o9⟩ : ∃ (oa dc : Nat) (w9 : World), ((h' = 232 ∧ cap = 232 ∧ oa = 0 ∧ dc = 0) ∨ (h' ≠ cap ∧ h' < cap ∧ oa = h' ∧ dc = cap - h')) ∧ (Builtin.copy_ #[59, 9] 3 #[.slice (some ⟨w7.heap.size, oa, none⟩) (232 - h') dc, .string r]).run Try.prog w8 = .ok (goInt r.size) w9 ∧ Buf w9 (.slice (some ⟨w7.heap.size, 0, none⟩) 232 cap) (lay T.data.toList h' r.data.toList) ∧ Only [w7.heap.size] w8 w9 := by
      rw [← hTlen] at B8
      by_cases hz : h' = cap
      · obtain ⟨w9, h1, h2, h3⟩ := copy_buf B8 h' 0 0 r (by omega) (.inr ⟨by omega, by omega⟩) (232 - h') (by omega)
        rw [hTlen] at h2
        exact ⟨0, 0, w9, .inl ⟨by omega, by omega, rfl, rfl⟩, h1, h2, h3⟩
      · obtain ⟨w9, h1, h2, h3⟩ := copy_buf B8 h' h' (cap - h') r (by omega) (.inl rfl) (232 - h') (by omega)
        rw [hTlen] at h2
        exact ⟨h', cap - h', w9, .inr ⟨hz, by omega, rfl, rfl⟩, h1, h2, h3⟩
    have S9 := S8.only o9 NS.out
    have O9 := Lib.hid (O8.out.trans (o9.below_of O8.out.size (by simpa using hgw)))
    obtain ⟨v10, w10, ea, T10, hb10, fr10⟩ := append_cut S9 i hi (by omega) h' r.size
    obtain ⟨V10, c10, rfl⟩ := slc_val T10
    have O10 := Lib.hid (bstep O9.out hb10)
    have B10 := B9.below hb10
    have S10 := S9.below hb10
    obtain ⟨A', cc, v11, w11, hd, eb, T11, o11, -⟩ := append_tail T10 S10 i hi (by omega) (by omega) (by omega)
    obtain ⟨V11, c11, rfl⟩ := slc_val T11
    have B11 := B10.only o11 (fun x hx hx' => slc_ne T10 B10 (by decide) x hx' hx)
    have O11 := Lib.hid (O10.out.trans (o11.below_of O10.out.size (fun x hx => Nat.le_trans O9.out.size (fr10 x hx))))
    have KW := Lib.hid (with_any B11 (SlRd.of T11) h' HLaid.out.len (by have h1 := HLaid.out.head; have h2 := HLaid.out.hh; omega) (by omega) (by omega) HLaid.out.small)
    rw [Int.toNat_natCast] at KW
    have hgg := Lib.hid (show ∀ x ∈ ownB (.slice (some ⟨w7.heap.size, 0, none⟩) 232 cap), w.heap.size ≤ x from by simpa [ownB] using hgw)
    generalize hRES : withF (lay T.data.toList h' r.data.toList) (List.take i (slots T.data.toList) ++ [(h', r.size)] ++ List.drop i (slots T.data.toList)) h' = RES at *
    have HRES := Lib.hid hRES
    clear hRES
    clear e8 B8 hb8 S8 NS B9 o9 S9 T10 hb10 fr10 B10 S10 T11 o11 B11 O7 S7 O8 O9 O10 hTlen
    go_wp2_with fail
    rw [E8.out]
    rcases hoa with ⟨rfl, rfl, rfl, rfl⟩ | ⟨hz, hz2, rfl, rfl⟩
    all_goals
      rcases hd with ⟨rfl, rfl, rfl, rfl, rfl, rfl⟩ | ⟨gA, rfl, rfl, rfl, rfl, rfl⟩ | ⟨gA, rfl, hci, hci2, hnc, rfl, rfl⟩
    all_goals
      try simp only [show ((232 : Nat) : Int) = 232 from rfl, show ((0 : Nat) : Int) = 0 from rfl] at ea
      try simp only [Nat.sub_self, Nat.add_zero] at eb KW
      go_wp2_with fail
      refine KW.out.mono ?_
      rintro e w12 ⟨rfl, o12⟩
      have O12 := Lib.hid (O11.out.trans (o12.below_of O11.out.size hgg.out))
      clear o12
      go_wp2_with fail
      go_ret2
      refine ⟨?_, O12.out⟩
      first | rfl | (rw [HRES.out]; rfl)
  · have e1 := HCN.out hg
    have hg1 : 4 + 4 * (n + 1) + r.size ≤ heap := by omega
    clear hg HCB HCN
    subst e1
    have A2' := FR2
    go_wp2_with fail
    refine (K2T.out _).mono ?_
    rintro e w7 ⟨rfl, hb7⟩
    have O7 := Lib.hid (bstep O4.out hb7)
    have S7 := Lib.hid (S4.out.below hb7)
    clear hb7 S4 O4 hg1 KM K2 KC KL KR K2T KLT
    obtain ⟨cap, w8, e8, B8, hb8⟩ := buf_of_string s w7 (by omega)
    rw [HTL.out] at e8 B8
    have E8 := Lib.hid e8
    have O8 := Lib.hid (bstep O7.out hb8)
    have S8 := S7.out.below hb8
    have hgw := Nat.le_trans O7.out.size (Nat.le_refl w7.heap.size)
    have hTlen : s.data.toList.length = 232 := by have := HTL.out; simpa using this
    have NS := Lib.hid (buf_ownB S8 B8 (by decide))
    have hcap : 232 ≤ cap := by obtain ⟨rest, _, h2, _⟩ := Slc.blk B8; rw [bvs_length, hTlen] at h2; omega
    obtain ⟨oa, dc, w9, hoa, cp, B9, o9⟩ : ∃ (oa dc : Nat) (w9 : World), ((h' = 232 ∧ cap = 232 ∧ oa = 0 ∧ dc = 0) ∨ (h' ≠ cap ∧ h' < cap ∧ oa = h' ∧ dc = cap - h')) ∧ (Builtin.copy_ #[59, 9] 3 #[.slice (some ⟨w7.heap.size, oa, none⟩) (232 - h') dc, .string r]).run Try.prog w8 = .ok (goInt r.size) w9 ∧ Buf w9 (.slice (some ⟨w7.heap.size, 0, none⟩) 232 cap) (lay s.data.toList h' r.data.toList) ∧ Only [w7.heap.size] w8 w9 := by
      rw [← hTlen] at B8
      by_cases hz : h' = cap
      · obtain ⟨w9, h1, h2, h3⟩ := copy_buf B8 h' 0 0 r (by omega) (.inr ⟨by omega, by omega⟩) (232 - h') (by omega)
        rw [hTlen] at h2
        exact ⟨0, 0, w9, .inl ⟨by omega, by omega, rfl, rfl⟩, h1, h2, h3⟩
      · obtain ⟨w9, h1, h2, h3⟩ := copy_buf B8 h' h' (cap - h') r (by omega) (.inl rfl) (232 - h') (by omega)
        rw [hTlen] at h2
        exact ⟨h', cap - h', w9, .inr ⟨hz, by omega, rfl, rfl⟩, h1, h2, h3⟩
    have S9 := S8.only o9 NS.out
    have O9 := Lib.hid (O8.out.trans (o9.below_of O8.out.size (by simpa using hgw)))
    obtain ⟨v10, w10, ea, T10, hb10, fr10⟩ := append_cut S9 i hi (by omega) h' r.size
    obtain ⟨V10, c10, rfl⟩ := slc_val T10
    have O10 := Lib.hid (bstep O9.out hb10)
    have B10 := B9.below hb10
    have S10 := S9.below hb10
    obtain ⟨A', cc, v11, w11, hd, eb, T11, o11, -⟩ := append_tail T10 S10 i hi (by omega) (by omega) (by omega)
    obtain ⟨V11, c11, rfl⟩ := slc_val T11
    have B11 := B10.only o11 (fun x hx hx' => slc_ne T10 B10 (by decide) x hx' hx)
    have O11 := Lib.hid (O10.out.trans (o11.below_of O10.out.size (fun x hx => Nat.le_trans O9.out.size (fr10 x hx))))
    have KW := Lib.hid (with_any B11 (SlRd.of T11) h' HLaid.out.len (by have h1 := HLaid.out.head; have h2 := HLaid.out.hh; omega) (by omega) (by omega) HLaid.out.small)
    rw [Int.toNat_natCast] at KW
    have hgg := Lib.hid (show ∀ x ∈ ownB (.slice (some ⟨w7.heap.size, 0, none⟩) 232 cap), w.heap.size ≤ x from by simpa [ownB] using hgw)
    generalize hRES : withF (lay s.data.toList h' r.data.toList) (List.take i (slots s.data.toList) ++ [(h', r.size)] ++ List.drop i (slots s.data.toList)) h' = RES at *
    have HRES := Lib.hid hRES
    clear hRES
    clear e8 B8 hb8 S8 NS B9 o9 S9 T10 hb10 fr10 B10 S10 T11 o11 B11 O7 S7 O8 O9 O10 hTlen
    go_wp2_with fail
    rw [E8.out]
    rcases hoa with ⟨rfl, rfl, rfl, rfl⟩ | ⟨hz, hz2, rfl, rfl⟩
    all_goals
      rcases hd with ⟨rfl, rfl, rfl, rfl, rfl, rfl⟩ | ⟨gA, rfl, rfl, rfl, rfl, rfl⟩ | ⟨gA, rfl, hci, hci2, hnc, rfl, rfl⟩
    all_goals
      try simp only [show ((232 : Nat) : Int) = 232 from rfl, show ((0 : Nat) : Int) = 0 from rfl] at ea
      try simp only [Nat.sub_self, Nat.add_zero] at eb KW
      go_wp2_with fail
      refine KW.out.mono ?_
      rintro e w12 ⟨rfl, o12⟩
      have O12 := Lib.hid (O11.out.trans (o12.below_of O11.out.size hgg.out))
      clear o12
      go_wp2_with fail
      go_ret2
      refine ⟨?_, O12.out⟩
      first | rfl | (rw [HRES.out]; rfl)
end Go.Proofs.Yticehnnbjbliaab.Sl
