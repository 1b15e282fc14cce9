/- disk by its contracts: Read, Write. -/
import Derived.Test.YtmofbgcanehdoaaDisk2
namespace Go.Proofs.Ytmofbgcanehdoaa.Dk
open Go.RowKit
attribute [local go_sem ↓] exec_ld exec_st exec_zero

theorem sec_cells {F : List UInt8} {k : Nat} (j : Nat) (v : Value) (h : (bvs (sec F k))[j]? = some v) : (bvs F)[k * 64 + j]? = some v := by
  rw [bvs_get, sec_get] at h
  rw [bvs_get]
  split at h
  · rw [show k * 64 + j = 64 * k + j by omega]; exact h
  · simp at h
def D.readF (d : D) (n : Nat) (i : Int) : List UInt8 × Int := if d.atF n i = 0 then (sec d.now i.toNat, 0) else ([], d.atF n i)
theorem atF_in {d : D} {n : Nat} {i : Int} (h : d.atF n i = 0) : 0 ≤ i ∧ i < n := by
  unfold D.atF at h
  split at h
  · cases h
  · split at h
    · assumption
    · cases h
theorem atF_range (d : D) (n : Nat) (i : Int) : d.atF n i = 0 ∨ ((d.atF n i == 0) = false) := by
  by_cases h : d.atF n i = 0
  · exact .inl h
  · exact .inr (by simpa using h)

set_option maxHeartbeats 400000 in
theorem read_any {w : World} {L : Loc} {n : Nat} {d : D} (h : DiskAt w L n d) (i : Int) :
    Calls Try.prog 43 #[dp L.b, .int .i64 i] w fun e w' => e = .returned (.tuple #[.string ⟨(d.readF n i).1.toArray⟩, .int .i64 (d.readF n i).2]) ∧ w = w' := by
  have K := Lib.hid (at_any h i)
  have hn := h.ok.small
  rcases atF_range d n i with ha | ha
  · have hi := atF_in ha
    have e1 : d.readF n i = (sec d.now i.toNat, 0) := by unfold D.readF; rw [if_pos ha]
    rw [e1]
    rw [ha] at K
    obtain ⟨k, rfl⟩ := Int.eq_ofNat_of_zero_le hi.1
    have hk : k < n := by omega
    have f0 := h.f0
    have hst := fun (a b : Nat) (ha : 64 = a) (hb : k * 64 = b) => (run_string_of (P := Try.prog) w 62 9 5 Try.underlying62 Try.underlying5 Try.underlying9 ⟨L.gN, b, none⟩ a a (sec d.now k) (ha ▸ sec_length h.ok.now hk) (hb ▸ cells_at h.hN (k * 64) _ sec_cells))
    have HS := Lib.hid (hst 64 (k * 64) rfl rfl)
    clear hst e1 ha hi h
    unfold dp at *
    go_enter Try.func43, Try.ntmps43
    go_wp2_with fail
    refine K.out.mono ?_
    rintro e w1 ⟨rfl, rfl⟩
    go_wp2_with fail
    rw [HS.out]
    go_wp2_with fail
    go_ret2
    exact ⟨rfl, rfl⟩
  · have e1 : d.readF n i = ([], d.atF n i) := by unfold D.readF; rw [if_neg (by simpa using ha)]
    rw [e1]
    generalize d.atF n i = x at *
    clear e1 h
    unfold dp at *
    go_enter Try.func43, Try.ntmps43
    go_wp2_with fail
    refine K.out.mono ?_
    rintro e w1 ⟨rfl, rfl⟩
    go_wp2_with fail
    go_ret2
    exact ⟨rfl, rfl⟩
theorem read_nil (i : Int) (w : World) :
    Calls Try.prog 43 #[.pointer none, .int .i64 i] w fun e w' => e = .returned (.tuple #[.string ⟨#[]⟩, .int .i64 1]) ∧ w = w' := by
  go_enter Try.func43, Try.ntmps43
  go_wp2_with fail
  refine (at_nil _ _).mono ?_
  rintro e w1 ⟨rfl, rfl⟩
  go_wp2_with fail
  go_ret2
  exact ⟨rfl, rfl⟩

theorem zeros_put (F : List UInt8) (s : ByteArray) {n k : Nat} (hF : F.length = 64 * n) (hk : k < n) :
    putAt (putAt (bvs F) (k * 64) (bvs (List.replicate 64 0))) (k * 64) (bvs (s.data.toList.take (Nat.min s.size 64))) = bvs (setSec F k (fillF s.data.toList)) := by
  rw [bvs_lay, bvs_lay, ← zero_then F s.data.toList hF hk]
  have e : s.data.toList.take (Nat.min s.size 64) = s.data.toList.take 64 := by
    rcases Nat.le_total s.size 64 with h | h
    · rw [show Nat.min s.size 64 = s.size from Nat.min_eq_left h, List.take_of_length_le (by simp), List.take_of_length_le (by simpa using h)]
    · rw [show Nat.min s.size 64 = 64 from Nat.min_eq_right h]
  rw [e, show k * 64 = 64 * k from Nat.mul_comm _ _]
  rfl
theorem size_u8 : (Try.prog.info? 5).map (·.size) = some 1 := by kernel_rfl
/-- a sector's two stores: bytes 0, then a text's -/
theorem put_now {w : World} {L : Loc} {n : Nat} {d : D} (h : DiskAt w L n d) (k : Nat) (hk : k < n) (s : ByteArray) :
    ∃ w1, stArr w (.pointer (some ⟨L.gN, k * 64, none⟩)) zero64 = .ok () w1 ∧ Only [L.gN] w w1 ∧
      ∃ w2, (Builtin.copy_ #[62, 9] 3 #[.slice (some ⟨L.gN, k * 64, none⟩) 64 64, .string s]).run Try.prog w1 = .ok (goInt (Nat.min s.size 64)) w2 ∧ DiskAt w2 L n { d with now := setSec d.now k (fillF s.data.toList) } ∧ Only [L.gN] w w2 := by
  have hlen := h.ok.now
  obtain ⟨w1, e1, B1, o1⟩ := stArr_ok h.hN (k * 64) (bvs (List.replicate 64 0)) (by simp) (by simp; omega) (bvs_one _)
  obtain ⟨w2, e2, B2, o2⟩ := copy_string (P := Try.prog) B1 62 9 3 5 (k * 64) 64 64 s (Nat.min s.size 64) Try.underlying62 size_u8 rfl (by rw [putAt_length (by simp; omega)]; have hm : Nat.min s.size 64 ≤ 64 := Nat.min_le_right _ _; rw [bvs_length, hlen]; omega)
  rw [zeros_put _ _ hlen hk] at B2
  have o := o1.trans o2
  refine ⟨w1, e1, o1, w2, e2, ⟨h.hb.only o (by simp; exact h.bN), B2, h.hO.only o (by simp; exact fun e => h.ne e.symm), h.hL.only o (by simp; exact h.LN), h.ne, ?_⟩, o⟩
  have := fillF_length s.data.toList
  exact ⟨by show (setSec d.now k _).length = _; unfold setSec; rw [lay_length (by omega)]; exact hlen, h.ok.old, h.ok.loose, h.ok.small, h.ok.armed, h.ok.calls⟩
/-- what stands in the field 'now' behind a sector's first store -/
theorem f0_far {w w' : World} {L : Loc} {n : Nat} {d : D} (h : DiskAt w L n d) (o : Only [L.gN] w w') : w'.cell? ⟨L.b, 0, none⟩ = some (.slice (some ⟨L.gN, 0, none⟩) n n) :=
  (o.cell h.hb.lt (by simp; exact h.bN)).trans h.f0

set_option maxRecDepth 100000 in
set_option maxHeartbeats 2000000 in
theorem write_new {w : World} {L : Loc} {n : Nat} {d : D} (h : DiskAt w L n d) (k : Nat) (hk : k < n) (s : ByteArray) (ha : d.atF n k = 0) (hc : d.calls ≤ 1000000000) (hr : d.armed ≤ 9223372036854775807) (hl : d.loose.getD k false = false) :
    Calls Try.prog 28 #[dp L.b, .int .i64 k, .string s] w fun e w' => e = .returned (.int .i64 ((d.putF k s.data.toList).countF).2) ∧ DiskAt w' L n ((d.putF k s.data.toList).countF).1 ∧ Only L.fp w w' := by
  have K := Lib.hid (at_any h k)
  have hn := h.ok.small
  rw [ha] at K
  have f0 := h.f0
  have f1 := h.f1
  have f2 := h.f2
  have cl : w.cell? ⟨L.gL, k, none⟩ = some (.bool false) := by
    rw [← hl]
    refine h.hL.cell_some ?_
    rw [List.getElem?_toArray, bools_get _ _ (by rw [h.ok.loose]; exact hk)]
  have hkeep : d.keepF k = { d with old := setSec d.old k (sec d.now k), loose := d.loose.set k true } := by unfold D.keepF; rw [hl]; rfl
  have hput : d.putF k s.data.toList = { d.keepF k with now := setSec (d.keepF k).now k (fillF s.data.toList) } := by unfold D.putF; rw [D.keep_now]
  have DC : (d.keepF k).calls = d.calls := by rw [hkeep]
  have DA : (d.keepF k).armed = d.armed := by rw [hkeep]
  have hok := h.ok.keep k hk
  rw [hput]
  have hld : ldArr w.drew (.pointer (some ⟨L.gN, k * 64, none⟩)) = .ok (.agg (bvs (sec d.now k)).toArray) w.drew := ldArr_ok h.hN.drew (k * 64) _ (by rw [bvs_length, sec_length h.ok.now hk]) sec_cells
  obtain ⟨w2, hst, B2, o2⟩ := stArr_ok h.hO.drew (k * 64) (bvs (sec d.now k)) (by rw [bvs_length, sec_length h.ok.now hk]) (by have := h.ok.old; simp; omega) (bvs_one _)
  have cl2 : w2.cell? ⟨L.gL, k, none⟩ = some (.bool false) := (o2.cell (cell_lt' cl) (by simp; exact h.LO)).trans cl
  have fl2 : w2.frozen? ⟨L.gL, k, none⟩ = false := (o2.frozen (cell_lt' cl) (by simp; exact h.LO)).trans (h.hL.frozen k (by simp; rw [h.ok.loose]; exact hk))
  have o2' : Only L.fp w w2 := ⟨o2.os, o2.tape, o2.output, o2.size, fun b hb hn => o2.block b hb (by simp [Loc.fp] at hn ⊢; exact hn.2.2.1)⟩
  have hD : DiskAt (w2.setCell ⟨L.gL, k, none⟩ (.bool true)) L n (d.keepF k) := by
    rw [hkeep] at hok ⊢
    have B3 := ((h.hL.drew.only o2 (by simp; exact h.LO)).set_ k (.bool true))
    rw [List.setIfInBounds_toArray, bools_set] at B3
    rw [bvs_lay] at B2
    refine ⟨(h.hb.drew.only o2 (by simp; exact h.bO)).far (by exact h.bL) _, (h.hN.drew.only o2 (by simp; exact h.ne)).far (by exact fun e => h.LN e.symm) _, ?_, B3, h.ne, hok⟩
    have := B2.far (p := ⟨L.gL, k, none⟩) (fun e => h.LO e.symm) (.bool true)
    rwa [show k * 64 = 64 * k from Nat.mul_comm _ _] at this
  have oD : Only L.fp w (w2.setCell ⟨L.gL, k, none⟩ (.bool true)) := o2'.setCell (by simp [Loc.fp]) _
  clear hkeep hput hok ha B2 o2 o2' h
  generalize d.keepF k = d1 at *
  unfold dp at *
  go_enter Try.func28, Try.ntmps28
  go_wp2_with fail
  refine K.out.mono ?_
  rintro e w1 ⟨rfl, rfl⟩
  go_wp2_with fail
  go_region
  clear hld hst f0 f1 f2 cl cl2 fl2
  generalize w2.setCell ⟨L.gL, k, none⟩ (.bool true) = w3 at *
  have f0' := hD.f0
  obtain ⟨w4, st4, o4, w5, cp5, D5, o5⟩ := put_now hD k hk s
  have f04 := f0_far hD o4
  have CP := Lib.hid cp5
  have KC := Lib.hid (counts_any D5 (by rw [DC]; exact hc) (by rw [DA]; exact hr))
  have HD := Lib.hid D5
  have O5 := Lib.hid (oD.trans (o5.mono (S' := L.fp) (by simp [Loc.fp])))
  clear hD oD cp5 D5 o4 o5 DC DA
  unfold dp at KC
  go_wp2_with fail
  rw [CP.out]
  go_wp2_with fail
  refine KC.out.mono ?_
  rintro e w6 ⟨rfl, D6, o6⟩
  go_wp2_with fail
  go_ret
  exact ⟨rfl, D6, O5.out.trans (o6.mono (by simp [Loc.fp]))⟩
set_option maxRecDepth 100000 in
set_option maxHeartbeats 2000000 in
theorem write_old {w : World} {L : Loc} {n : Nat} {d : D} (h : DiskAt w L n d) (k : Nat) (hk : k < n) (s : ByteArray) (ha : d.atF n k = 0) (hc : d.calls ≤ 1000000000) (hr : d.armed ≤ 9223372036854775807) (hl : d.loose.getD k false = true) :
    Calls Try.prog 28 #[dp L.b, .int .i64 k, .string s] w fun e w' => e = .returned (.int .i64 ((d.putF k s.data.toList).countF).2) ∧ DiskAt w' L n ((d.putF k s.data.toList).countF).1 ∧ Only L.fp w w' := by
  have K := Lib.hid (at_any h k)
  have hn := h.ok.small
  rw [ha] at K
  have f0 := h.f0
  have f1 := h.f1
  have f2 := h.f2
  have cl : w.cell? ⟨L.gL, k, none⟩ = some (.bool true) := by
    rw [← hl]
    refine h.hL.cell_some ?_
    rw [List.getElem?_toArray, bools_get _ _ (by rw [h.ok.loose]; exact hk)]
  have hkeep : d.keepF k = d := by unfold D.keepF; rw [hl]; rfl
  have hput : d.putF k s.data.toList = { d with now := setSec d.now k (fillF s.data.toList) } := by unfold D.putF; rw [hkeep]
  rw [hput]
  have hD := h
  have oD : Only L.fp w w := Only.refl _ _
  have DC : d.calls = d.calls := rfl
  have DA : d.armed = d.armed := rfl
  have HDC := Lib.hid DC
  clear hkeep hput ha h DC DA
  unfold dp at *
  have f0' := hD.f0
  obtain ⟨w4, st4, o4, w5, cp5, D5, o5⟩ := put_now hD k hk s
  have f04 := f0_far hD o4
  have CP := Lib.hid cp5
  have KC := Lib.hid (counts_any D5 hc hr)
  have HD := Lib.hid D5
  have O5 := Lib.hid (oD.trans (o5.mono (S' := L.fp) (by simp [Loc.fp])))
  clear hD oD cp5 D5 o4 o5
  unfold dp at KC
  go_enter Try.func28, Try.ntmps28
  go_wp2_with fail
  refine K.out.mono ?_
  rintro e w1 ⟨rfl, rfl⟩
  go_wp2_with fail
  rw [CP.out]
  go_wp2_with fail
  refine KC.out.mono ?_
  rintro e w6 ⟨rfl, D6, o6⟩
  go_wp2_with fail
  go_ret
  exact ⟨rfl, D6, O5.out.trans (o6.mono (by simp [Loc.fp]))⟩
end Go.Proofs.Ytmofbgcanehdoaa.Dk
