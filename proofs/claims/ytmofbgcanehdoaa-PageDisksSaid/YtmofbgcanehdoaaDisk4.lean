/- disk by its contracts: Write whole, Sync, Arm, Down, Sectors, Calls, Loose. -/
import Derived.Test.YtmofbgcanehdoaaDisk3
namespace Go.Proofs.Ytmofbgcanehdoaa.Dk
open Go.RowKit

theorem write_any {w : World} {L : Loc} {n : Nat} {d : D} (h : DiskAt w L n d) (i : Int) (s : ByteArray) (hc : d.calls ≤ 1000000000) (hr : d.armed ≤ 9223372036854775807) :
    Calls Try.prog 28 #[dp L.b, .int .i64 i, .string s] w fun e w' => e = .returned (.int .i64 (d.writeF n i s.data.toList).2) ∧ DiskAt w' L n (d.writeF n i s.data.toList).1 ∧ Only L.fp w w' := by
  rcases atF_range d n i with ha | ha
  · have hi := atF_in ha
    obtain ⟨k, rfl⟩ := Int.eq_ofNat_of_zero_le hi.1
    have e1 : d.writeF n k s.data.toList = (d.putF k s.data.toList).countF := by unfold D.writeF; rw [if_pos ha]; rfl
    rw [e1]
    cases hl : d.loose.getD k false
    · exact write_new h k (by omega) s ha hc hr hl
    · exact write_old h k (by omega) s ha hc hr hl
  · have e1 : d.writeF n i s.data.toList = (d, d.atF n i) := by unfold D.writeF; rw [if_neg (by simpa using ha)]
    rw [e1]
    have K := Lib.hid (at_any h i)
    have H := Lib.hid h
    generalize d.atF n i = x at *
    clear e1 h
    unfold dp at *
    go_enter Try.func28, Try.ntmps28
    go_wp2_with fail
    refine K.out.mono ?_
    rintro e w1 ⟨rfl, rfl⟩
    go_wp2_with fail
    go_ret
    exact ⟨rfl, H.out, Only.refl _ _⟩
theorem write_nil (i : Int) (s : ByteArray) (w : World) :
    Calls Try.prog 28 #[.pointer none, .int .i64 i, .string s] w fun e w' => e = .returned (.int .i64 1) ∧ w = w' := by
  go_enter Try.func28, Try.ntmps28
  go_wp2_with fail
  refine (at_nil _ _).mono ?_
  rintro e w1 ⟨rfl, rfl⟩
  go_wp2_with fail
  go_ret
  exact ⟨rfl, rfl⟩

theorem zeroCells_one (z : Value) (n : Nat) : (Builtin.zeroCells #[z] n).toList = List.replicate n z := by
  unfold Builtin.zeroCells
  apply List.ext_getElem
  · simp
  · intro i h1 h2
    simp [Nat.mod_one]
theorem putAt_all (l c : List Value) (h : l.length = c.length) : putAt l 0 c = c := by
  simp [putAt, h]
/-- clear(s), s a whole block of one-cell elements -/
theorem clear_blk {P : Program} {w : World} {g : Nat} {t T e : TypeId} {l : List Value} (B : Blk w g t l.toArray) (ht : P.underlying T = some (.slice e)) {z : Value} (hz : ∀ w, (zeroValue e).run P w = .ok z w) (h1 : z.cells = #[z]) (hz1 : z.oneCell' = true) (ty : TypeId) (n c : Nat) (hn : l.length = n) :
    ∃ w', (Builtin.clear_ #[T] ty #[.slice (some ⟨g, 0, none⟩) n c]).run P w = .ok (.tuple #[]) w' ∧ Blk w' g t (List.replicate n z).toArray ∧ Only [g] w w' := by
  rcases Nat.eq_zero_or_pos n with h0 | h0
  · subst h0
    have : l = [] := List.eq_nil_of_length_eq_zero hn
    subst this
    exact ⟨w, by simp [Builtin.clear_, run_underlying ht], B, Only.refl _ _⟩
  · have hst := run_storeCells_cells (P := P) g 0 (List.replicate n z) 0 w (fun j hj => by rw [B.cell]; simp at hj ⊢; omega) (fun j hj => B.frozen _ (by simp at hj ⊢; omega)) (by intro v hv; rw [(List.mem_replicate.1 hv).2]; exact hz1)
    refine ⟨w.setCells g 0 (List.replicate n z), ?_, ?_, (Only.refl _ _).setCells _ 0 (by simp)⟩
    · obtain ⟨m, rfl⟩ : ∃ m, n = m + 1 := ⟨n - 1, by omega⟩
      simp only [Nat.add_zero] at hst
      simp [Builtin.clear_, run_underlying ht, hz, h1, zeroCells_one, hst, Result.andThen]
    · have := B.setCells (List.replicate n z) 0 (by simp; omega)
      rwa [putAt_all _ _ (by simp; omega)] at this

set_option maxHeartbeats 1000000 in
theorem sync_any {w : World} {L : Loc} {n : Nat} {d : D} (h : DiskAt w L n d) (hc : d.calls ≤ 1000000000) (hr : d.armed ≤ 9223372036854775807) :
    Calls Try.prog 23 #[dp L.b] w fun e w' => e = .returned (.int .i64 d.syncF.2) ∧ DiskAt w' L n d.syncF.1 ∧ Only L.fp w w' := by
  have K := Lib.hid (works_any h)
  have KC := Lib.hid (counts_any h hc hr)
  have HOK := Lib.hid h.ok.sync
  unfold D.worksF at K
  cases hd : d.down
  · rw [hd] at K
    simp only [Bool.false_eq_true, if_false] at K
    by_cases h0 : d.countF.2 = 0
    · have e1 : d.syncF = ({ d.countF.1 with loose := List.replicate d.loose.length false }, 0) := by
        unfold D.syncF; rw [hd, if_neg (by simp), if_pos h0]
      have hll := h.ok.loose
      rw [hll] at e1
      rw [e1]
      rw [e1] at HOK
      rw [h0] at KC
      have hlo : d.countF.1.loose.length = n := by
        have := h.ok.count.loose; exact this
      clear e1 h0 hd h hll
      generalize d.countF.1 = d1 at *
      unfold dp at *
      go_enter Try.func23, Try.ntmps23
      go_wp2_with fail
      refine K.out.mono ?_
      rintro e w1 ⟨rfl, rfl⟩
      go_wp2_with fail
      refine KC.out.mono ?_
      rintro e w2 ⟨rfl, D2, o2⟩
      have f2 := D2.f2
      obtain ⟨w3, ec, B3, o3⟩ := clear_blk (P := Try.prog) D2.hL Try.underlying46 (z := .bool false) (fun _ => by kernel_rfl) rfl rfl 0 n n (by simpa using hlo)
      have EC := Lib.hid ec
      clear ec hlo
      go_wp2_with fail
      rw [EC.out]
      go_wp2_with fail
      go_ret
      refine ⟨rfl, ⟨D2.hb.only o3 (by simp; exact D2.bL), D2.hN.only o3 (by simp; exact fun e => D2.LN e.symm), D2.hO.only o3 (by simp; exact fun e => D2.LO e.symm), ?_, D2.ne, HOK.out⟩, (o2.mono (by simp [Loc.fp])).trans (o3.mono (by simp [Loc.fp]))⟩
      simpa [bools] using B3
    · have e1 : d.syncF = d.countF := by
        unfold D.syncF; rw [hd, if_neg (by simp), if_neg h0]
      rw [e1]
      have hne : (d.countF.2 == 0) = false := by simpa using h0
      generalize d.countF = dd at *
      clear e1 h0 hd h
      obtain ⟨d1, x⟩ := dd
      simp only at hne KC
      unfold dp at *
      go_enter Try.func23, Try.ntmps23
      go_wp2_with fail
      refine K.out.mono ?_
      rintro e w1 ⟨rfl, rfl⟩
      go_wp2_with fail
      refine KC.out.mono ?_
      rintro e w2 ⟨rfl, D2, o2⟩
      go_wp2_with fail
      go_ret
      exact ⟨rfl, D2, o2.mono (by simp [Loc.fp])⟩
  · rw [hd] at K
    simp only [if_true] at K
    have e1 : d.syncF = (d, 13) := by unfold D.syncF; rw [hd, if_pos rfl]
    rw [e1]
    have H := Lib.hid h
    clear e1 hd h
    unfold dp at *
    go_enter Try.func23, Try.ntmps23
    go_wp2_with fail
    refine K.out.mono ?_
    rintro e w1 ⟨rfl, rfl⟩
    go_wp2_with fail
    go_ret
    exact ⟨rfl, H.out, Only.refl _ _⟩
theorem sync_nil (w : World) :
    Calls Try.prog 23 #[.pointer none] w fun e w' => e = .returned (.int .i64 1) ∧ w = w' := by
  go_enter Try.func23, Try.ntmps23
  go_wp2_with fail
  refine (works_nil _).mono ?_
  rintro e w1 ⟨rfl, rfl⟩
  go_wp2_with fail
  go_ret
  exact ⟨rfl, rfl⟩

theorem arm_any {w : World} {L : Loc} {n : Nat} {d : D} (h : DiskAt w L n d) (k : Int) :
    Calls Try.prog 25 #[dp L.b, .int .i64 k] w fun e w' => e = .returned (.int .i64 (d.armF k).2) ∧ DiskAt w' L n (d.armF k).1 ∧ Only L.fp w w' := by
  have K := Lib.hid (works_any h)
  have HOK := Lib.hid (h.ok.arm k)
  unfold D.worksF at K
  cases hd : d.down
  · rw [hd] at K
    simp only [Bool.false_eq_true, if_false] at K
    by_cases hk : k < 1
    · have e1 : d.armF k = (d, 2) := by unfold D.armF; rw [hd, if_neg (by simp), if_pos hk]
      rw [e1]
      have H := Lib.hid h
      clear e1 hd h
      unfold dp at *
      go_enter Try.func25, Try.ntmps25
      go_wp2_with fail
      refine K.out.mono ?_
      rintro e w1 ⟨rfl, rfl⟩
      go_wp2_with fail
      go_ret
      exact ⟨rfl, H.out, Only.refl _ _⟩
    · have e1 : d.armF k = ({ d with armed := k }, 0) := by unfold D.armF; rw [hd, if_neg (by simp), if_neg hk]
      rw [e1]
      rw [e1] at HOK
      have H := Lib.hid h
      have f3 := h.f3
      have z3 := h.fz 3 (by omega)
      clear e1 hd h
      unfold dp at *
      go_enter Try.func25, Try.ntmps25
      go_wp2_with fail
      refine K.out.mono ?_
      rintro e w1 ⟨rfl, rfl⟩
      go_wp2_with fail
      go_ret
      have o1 : Only [L.b] w (w.setCell ⟨L.b, 3, none⟩ (.int .i64 k)) := (Only.refl _ _).setCell (by simp) _
      exact ⟨rfl, H.out.head (d' := { d with armed := k }) (H.out.hb.set_ 3 _) o1 rfl rfl rfl HOK.out, o1.mono (by simp [Loc.fp])⟩
  · rw [hd] at K
    simp only [if_true] at K
    have e1 : d.armF k = (d, 13) := by unfold D.armF; rw [hd, if_pos rfl]
    rw [e1]
    have H := Lib.hid h
    clear e1 hd h
    unfold dp at *
    go_enter Try.func25, Try.ntmps25
    go_wp2_with fail
    refine K.out.mono ?_
    rintro e w1 ⟨rfl, rfl⟩
    go_wp2_with fail
    go_ret
    exact ⟨rfl, H.out, Only.refl _ _⟩
theorem arm_nil (k : Int) (w : World) :
    Calls Try.prog 25 #[.pointer none, .int .i64 k] w fun e w' => e = .returned (.int .i64 1) ∧ w = w' := by
  go_enter Try.func25, Try.ntmps25
  go_wp2_with fail
  refine (works_nil _).mono ?_
  rintro e w1 ⟨rfl, rfl⟩
  go_wp2_with fail
  go_ret
  exact ⟨rfl, rfl⟩
theorem sectors_any {w : World} {L : Loc} {n : Nat} {d : D} (h : DiskAt w L n d) :
    Calls Try.prog 44 #[dp L.b] w fun e w' => e = .returned (.int .i64 n) ∧ w = w' := by
  have f0 := h.f0
  unfold dp
  go_enter Try.func44, Try.ntmps44
  go_wp2
  go_ret
  exact ⟨rfl, rfl⟩
theorem sectors_nil (w : World) :
    Calls Try.prog 44 #[.pointer none] w fun e w' => e = .returned (.int .i64 0) ∧ w = w' := by
  go_enter Try.func44, Try.ntmps44
  go_wp2
  go_ret
  exact ⟨rfl, rfl⟩
end Go.Proofs.Ytmofbgcanehdoaa.Dk
