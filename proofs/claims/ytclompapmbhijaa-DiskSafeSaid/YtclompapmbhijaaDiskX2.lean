/- the document's disk: Write, Sync. -/
import Derived.Test.YtclompapmbhijaaDiskX
namespace Go.Proofs.Ytclompapmbhijaa.Dk
open Go.RowKit

def fillB (s : ByteArray) : ByteArray := ⟨(fillF s.data.toList).toArray⟩
theorem fillB_size (s : ByteArray) : (fillB s).size = 64 := by
  show (List.toArray _).size = 64
  rw [List.size_toArray, fillF_length]
def X.putF (x : X) (i : Nat) (s : ByteArray) : X := { x with new := x.new.set i (fillB s), is := x.is.set i true }
def X.writeF (x : X) (n : Nat) (i : Int) (s : ByteArray) : X × Int := if x.down then (x, 13) else if 0 ≤ i ∧ i < n then (x.putF i.toNat s).countF else (x, 3)
theorem getD_setS (l : List ByteArray) (k : Nat) (s : ByteArray) (i : Nat) (hk : k < l.length) : (l.set k s).getD i .empty = if k = i then s else l.getD i .empty := by
  simp only [List.getD, List.getElem?_set]
  by_cases h : k = i
  · subst h; simp [hk]
  · simp [h]
theorem X.Ok.put {x : X} {n : Nat} (h : x.Ok n) (k : Nat) (hk : k < n) (s : ByteArray) : (x.putF k s).Ok n := by
  refine ⟨h.safe, by show (List.set _ _ _).length = n; rw [List.length_set]; exact h.new, by show (List.set _ _ _).length = n; rw [List.length_set]; exact h.is, h.small, h.fits, fun i hi => ?_⟩
  show ((x.new.set k (fillB s)).getD i .empty).size = 64
  have hi : (x.is.set k true).getD i false = true := hi
  rw [getD_setS _ _ _ _ (by rw [h.new]; exact hk)]
  split
  · exact fillB_size s
  · rename_i hne
    rw [getD_setB, if_neg (by simp [hne])] at hi
    exact h.fitn i hi
theorem XAt.put {w1 : World} {M : XL} {n : Nat} {x : X} (h : XAt w1 M n x) (k : Nat) (hk : k < n) (s : ByteArray) :
    XAt ((w1.setCell ⟨M.gW, k, none⟩ (.string (fillB s))).setCell ⟨M.gI, k, none⟩ (.bool true)) M n (x.putF k s) := by
  refine ⟨(h.hb.far (by exact h.bW) _).far (by exact h.bI) _, (h.hS.far (by exact h.ne) _).far (by exact fun e => h.IS e.symm) _, ?_, ?_, h.ne, h.ok.put k hk s⟩
  · have := (h.hW.set_ k (.string (fillB s))).far (p := ⟨M.gI, k, none⟩) (fun e => h.IW e.symm) (.bool true)
    rwa [List.setIfInBounds_toArray, sv_set _ _ _ _ (by rw [h.ok.new]; exact hk)] at this
  · have := (h.hI.far (p := ⟨M.gW, k, none⟩) h.IW (.string (fillB s))).set_ k (.bool true)
    rwa [List.setIfInBounds_toArray, bl_set _ _ _ _ (by rw [h.ok.is]; exact hk)] at this
set_option maxRecDepth 100000 in
set_option maxHeartbeats 1000000 in
theorem xwrite_any {w : World} {M : XL} {n : Nat} {x : X} (h : XAt w M n x) (i : Int) (s : ByteArray) (hs : s.size ≤ 1000000) (hc0 : 0 ≤ x.calls) (hc : x.calls ≤ 1000000000) (ha : 0 ≤ x.arm) (hr : x.arm ≤ 9223372036854775807) :
    Calls Try.prog 16 #[xp M.b, .int .i64 i, .string s] w fun e w' => e = .returned (.int .i64 (x.writeF n i s).2) ∧ XAt w' M n (x.writeF n i s).1 ∧ Only M.fp w w' := by
  have f0 := h.f0
  have f5 := h.f5
  have hn := h.ok.small
  unfold X.writeF
  cases hd : x.down
  · rw [if_neg (by simp)]
    rw [hd] at f5
    by_cases hi : 0 ≤ i ∧ i < n
    · rw [if_pos hi]
      obtain ⟨k, rfl⟩ := Int.eq_ofNat_of_zero_le hi.1
      have hk : k < n := by omega
      have KF := Lib.hid (fill_any s w.drew hs)
      have H := Lib.hid h
      have f1 := h.f1
      clear h hi
      unfold xp
      simp only [Int.toNat_natCast]
      rw [show (⟨(fillF s.data.toList).toArray⟩ : ByteArray) = fillB s from rfl] at KF
      go_enter Try.func16, Try.ntmps16
      go_wp2_with fail
      go_region_with (first | (go_at_call 18; refine KF.out.mono ?_; rintro e w1 ⟨rfl, hb⟩; have H1 := Lib.hid (H.out.drew.below hb); have O1 := Lib.hid hb; have f1' := H1.out.f1; have f2' := H1.out.f2; have z1' := H1.out.zW k hk; have z2' := H1.out.zI k hk; have c1' := H1.out.cW k hk; have c2' := H1.out.cI k hk))
      all_goals
        have hbW := H1.out.bW
        have hIW := H1.out.IW
        have H2 := H1.out.put k hk s
        have KC := Lib.hid (xcount_any H2 hc0 hc ha hr)
        have O2 : Only M.fp w ((w1.setCell ⟨M.gW, k, none⟩ (.string (fillB s))).setCell ⟨M.gI, k, none⟩ (.bool true)) := ((Only.of_below (S := M.fp) (w := w) (w' := w1) (((Below.refl w.heap.size w).drew).trans O1.out)).setCell (by simp [XL.fp]) _).setCell (by simp [XL.fp]) _
        have O2 := Lib.hid O2
        unfold xp at KC
        clear H2
        go_wp2_with fail
        refine KC.out.mono ?_
        rintro e w3 ⟨rfl, H3, o3⟩
        go_wp2_with fail
        go_ret
        exact ⟨rfl, H3, O2.out.trans (o3.mono (by simp [XL.fp]))⟩
    · rw [if_neg hi]
      have H := Lib.hid h
      clear h
      unfold xp
      have hi' : i < 0 ∨ (¬ i < 0 ∧ (n : Int) ≤ i) := by omega
      clear hi
      rcases hi' with h1 | ⟨h1, h2⟩
      all_goals
        go_enter Try.func16, Try.ntmps16
        go_wp2_with fail
        go_ret
        exact ⟨rfl, H.out, Only.refl _ _⟩
  · rw [if_pos rfl]
    rw [hd] at f5
    have H := Lib.hid h
    clear h
    unfold xp
    go_enter Try.func16, Try.ntmps16
    go_wp2_with fail
    go_ret
    exact ⟨rfl, H.out, Only.refl _ _⟩
theorem X.Ok.count {x : X} {n : Nat} (h : x.Ok n) : x.countF.1.Ok n := by
  unfold X.countF
  split
  · exact ⟨h.safe, h.new, h.is, h.small, h.fits, h.fitn⟩
  · split
    · exact ⟨h.safe, h.new, h.is, h.small, h.fits, h.fitn⟩
    · exact ⟨h.safe, h.new, h.is, h.small, h.fits, h.fitn⟩
theorem X.Ok.now {x : X} {n : Nat} (h : x.Ok n) (i : Nat) (hi : i < n) : (x.nowF i).size = 64 := by
  unfold X.nowF
  split
  · rename_i hb
    exact h.fitn i hb
  · apply h.fits
    have : i < x.safe.length := by rw [h.safe]; exact hi
    simp only [List.getD, List.getElem?_eq_getElem this, Option.getD_some]
    exact List.getElem_mem this
def X.syncOne (x : X) (i : Nat) (s : ByteArray) : X := { x with safe := x.safe.set i s, is := x.is.set i false }
theorem X.Ok.syncOne {x : X} {n : Nat} (h : x.Ok n) (i : Nat) (s : ByteArray) (hs : s.size = 64) : (x.syncOne i s).Ok n := by
  refine ⟨by show (List.set _ _ _).length = n; rw [List.length_set]; exact h.safe, h.new, by show (List.set _ _ _).length = n; rw [List.length_set]; exact h.is, h.small, fun t ht => ?_, fun j hj => ?_⟩
  · have ht : t ∈ x.safe.set i s := ht
    rcases List.mem_or_eq_of_mem_set ht with h1 | h1
    · exact h.fits t h1
    · rw [h1]; exact hs
  · have hj : (x.is.set i false).getD j false = true := hj
    rw [getD_setB] at hj
    split at hj
    · cases hj
    · exact h.fitn j hj
theorem XAt.syncOne {w : World} {M : XL} {n : Nat} {x : X} (h : XAt w M n x) (i : Nat) (hi : i < n) (s : ByteArray) (hs : s.size = 64) :
    XAt ((w.setCell ⟨M.gS, i, none⟩ (.string s)).setCell ⟨M.gI, i, none⟩ (.bool false)) M n (x.syncOne i s) := by
  refine ⟨(h.hb.far (by exact h.bS) _).far (by exact h.bI) _, ?_, (h.hW.far (by exact fun e => h.ne e.symm) _).far (by exact fun e => h.IW e.symm) _, ?_, h.ne, h.ok.syncOne i s hs⟩
  · have := (h.hS.set_ i (.string s)).far (p := ⟨M.gI, i, none⟩) (fun e => h.IS e.symm) (.bool false)
    rwa [List.setIfInBounds_toArray, sv_set _ _ _ _ (by rw [h.ok.safe]; exact hi)] at this
  · have := (h.hI.far (p := ⟨M.gS, i, none⟩) h.IS (.string s)).set_ i (.bool false)
    rwa [List.setIfInBounds_toArray, bl_set _ _ _ _ (by rw [h.ok.is]; exact hi)] at this
def X.syncTo (x : X) : Nat → X
  | 0 => x
  | i + 1 => (x.syncTo i).syncOne i ((x.syncTo i).nowF i)
def X.syncF (x : X) (n : Nat) : X × Int := if x.down then (x, 13) else if x.countF.2 = 0 then (x.countF.1.syncTo n, 0) else x.countF
set_option maxRecDepth 100000 in
set_option maxHeartbeats 1000000 in
theorem xsync_any {w : World} {M : XL} {n : Nat} {x : X} (h : XAt w M n x) (hc0 : 0 ≤ x.calls) (hc : x.calls ≤ 1000000000) (ha : 0 ≤ x.arm) (hr : x.arm ≤ 9223372036854775807) :
    Calls Try.prog 34 #[xp M.b] w fun e w' => e = .returned (.int .i64 (x.syncF n).2) ∧ XAt w' M n (x.syncF n).1 ∧ Only M.fp w w' := by
  have f5 := h.f5
  have hn := h.ok.small
  unfold X.syncF
  cases hd : x.down
  · rw [if_neg (by simp)]
    rw [hd] at f5
    have KC := Lib.hid (xcount_any h hc0 hc ha hr)
    clear h
    have hr2 : x.countF.2 = 0 ∨ x.countF.2 = 13 := by unfold X.countF; split; exact .inr rfl; split; exact .inl rfl; exact .inl rfl
    generalize x.countF = y at *
    obtain ⟨y, r⟩ := y
    simp only at KC hr2 ⊢
    unfold xp at *
    rcases hr2 with rfl | rfl
    · rw [if_pos rfl]
      go_enter Try.func34, Try.ntmps34
      go_wp2_with fail
      refine KC.out.mono ?_
      rintro e w1 ⟨rfl, H1, o1⟩
      have O1 := Lib.hid (o1.mono (S' := M.fp) (by simp [XL.fp]))
      go_wp2_with fail
      go_loopw [4] (fun iv wr => ∃ i : Nat, i ≤ n ∧ iv = .int .i64 i ∧ XAt wr M n (y.syncTo i) ∧ Only M.fp w wr) (fun iv _ => n - (intOf iv).toNat)
      case atStart => exact ⟨0, by omega, rfl, H1, O1.out⟩
      case round =>
        obtain ⟨i, hi, rfl, H2, O2⟩ := hrel
        have f0 := H2.f0
        have f2 := H2.f2
        by_cases h : i < n
        · have KN := Lib.hid (xnow_any H2.drew i h)
          have H3 := Lib.hid (H2.drew.syncOne i h _ (H2.ok.now i h))
          have HS := Lib.hid (show y.syncTo (i + 1) = (y.syncTo i).syncOne i ((y.syncTo i).nowF i) from rfl)
          have zS := H2.zS i h
          have zI := H2.zI i h
          have cS := H2.cS i h
          have cI := H2.cI i h
          have hbS := H2.bS
          have hIS := H2.IS
          have O3 := Lib.hid (((O2.drew).setCell (p := ⟨M.gS, i, none⟩) (by simp [XL.fp]) (.string ((y.syncTo i).nowF i))).setCell (p := ⟨M.gI, i, none⟩) (by simp [XL.fp]) (.bool false))
          unfold xp at KN
          clear H2 O2 H1
          generalize y.syncTo i = z at *
          generalize z.nowF i = s at *
          go_wp2_with fail
          go_region_with (first | (go_at_call 17; refine KN.out.mono ?_; rintro e w4 ⟨rfl, rfl⟩))
          all_goals
            go_wp2_with fail
            go_roundw
          all_goals first | exact ⟨i + 1, by omega, by go_num, by rw [HS.out]; exact H3.out, O3.out⟩ | (simp [intOf]; omega)
        · have hin : i = n := by omega
          subst hin
          have HD := Lib.hid H2
          clear H2
          go_wp2_with fail
          go_ret
          exact ⟨rfl, HD.out, O2⟩
    · rw [if_neg (by decide)]
      go_enter Try.func34, Try.ntmps34
      go_wp2_with fail
      refine KC.out.mono ?_
      rintro e w1 ⟨rfl, H1, o1⟩
      go_wp2_with fail
      go_ret
      exact ⟨rfl, H1, o1.mono (by simp [XL.fp])⟩
  · rw [if_pos rfl]
    rw [hd] at f5
    have H := Lib.hid h
    clear h
    unfold xp
    go_enter Try.func34, Try.ntmps34
    go_wp2_with fail
    go_ret
    exact ⟨rfl, H.out, Only.refl _ _⟩
end Go.Proofs.Ytclompapmbhijaa.Dk
