/- the document's disk (reference 10) by its contracts. -/
import Derived.Test.YtmofbgcanehdoaaXo
import Derived.Deep.DrawnRows
import Derived.Deep.Cut
import Derived.Deep.RegionHeld
import Derived.Deep.RegionHeld3
set_option maxRecDepth 100000
namespace Go.Proofs.Ytmofbgcanehdoaa.Dk
open Go.RowKit

structure X where
  safe : List ByteArray
  new : List ByteArray
  is : List Bool
  arm : Int
  calls : Int
  down : Bool
def X.nowF (x : X) (i : Nat) : ByteArray := if x.is.getD i false then x.new.getD i .empty else x.safe.getD i .empty
def X.countF (x : X) : X × Int :=
  if x.arm = 1 then ({ x with calls := x.calls + 1, arm := 0, down := true }, 13)
  else if x.arm > 1 then ({ x with calls := x.calls + 1, arm := x.arm - 1 }, 0) else ({ x with calls := x.calls + 1 }, 0)
structure X.Ok (x : X) (n : Nat) : Prop where
  safe : x.safe.length = n
  new : x.new.length = n
  is : x.is.length = n
  small : n ≤ 4096
  fits : ∀ s ∈ x.safe, s.size = 64
  fitn : ∀ i, x.is.getD i false = true → (x.new.getD i .empty).size = 64
/-- where it lies -/
structure XL where
  b : Nat
  gS : Nat
  gW : Nat
  gI : Nat
  cS : Nat
  cW : Nat
  cI : Nat
  rS : List Value
  rW : List Value
  rI : List Value
def XL.fp (M : XL) : List Nat := [M.b, M.gS, M.gW, M.gI]
def sv (l : List ByteArray) : List Value := l.map .string
theorem sv_get (l : List ByteArray) (r : List Value) (i : Nat) (hi : i < l.length) : (sv l ++ r)[i]? = some (.string (l.getD i .empty)) := by
  rw [List.getElem?_append_left (by simpa [sv] using hi)]
  simp [sv, List.getD, List.getElem?_eq_getElem hi]
theorem sv_set (l : List ByteArray) (r : List Value) (i : Nat) (s : ByteArray) (hi : i < l.length) : (sv l ++ r).set i (.string s) = sv (l.set i s) ++ r := by
  rw [List.set_append_left _ _ (by simpa [sv] using hi)]
  simp [sv]
theorem bl_get (l : List Bool) (r : List Value) (i : Nat) (hi : i < l.length) : (bools l ++ r)[i]? = some (.bool (l.getD i false)) := by
  rw [List.getElem?_append_left (by simpa [bools] using hi)]
  exact bools_get _ _ hi
theorem bl_set (l : List Bool) (r : List Value) (i : Nat) (b : Bool) (hi : i < l.length) : (bools l ++ r).set i (.bool b) = bools (l.set i b) ++ r := by
  rw [List.set_append_left _ _ (by simpa [bools] using hi), bools_set]
def xfields (M : XL) (n : Nat) (x : X) : Array Value :=
  #[.slice (some ⟨M.gS, 0, none⟩) n M.cS, .slice (some ⟨M.gW, 0, none⟩) n M.cW, .slice (some ⟨M.gI, 0, none⟩) n M.cI, .int .i64 x.arm, .int .i64 x.calls, .bool x.down]
structure XAt (w : World) (M : XL) (n : Nat) (x : X) : Prop where
  hb : Blk w M.b 56 (xfields M n x)
  hS : Blk w M.gS 9 (sv x.safe ++ M.rS).toArray
  hW : Blk w M.gW 9 (sv x.new ++ M.rW).toArray
  hI : Blk w M.gI 4 (bools x.is ++ M.rI).toArray
  ne : M.gS ≠ M.gW
  ok : x.Ok n
section
variable {w w' : World} {M : XL} {n : Nat} {x : X} {S : List Nat}
theorem XAt.only (h : XAt w M n x) (ho : Only S w w') (hd : ∀ y ∈ M.fp, y ∉ S) : XAt w' M n x :=
  ⟨h.hb.only ho (hd _ (by simp [XL.fp])), h.hS.only ho (hd _ (by simp [XL.fp])), h.hW.only ho (hd _ (by simp [XL.fp])), h.hI.only ho (hd _ (by simp [XL.fp])), h.ne, h.ok⟩
theorem XAt.below (h : XAt w M n x) (hb : Below w.heap.size w w') : XAt w' M n x := h.only (S := []) (.of_below hb) (by simp)
theorem XAt.drew (h : XAt w M n x) : XAt w.drew M n x := ⟨h.hb, h.hS, h.hW, h.hI, h.ne, h.ok⟩
theorem XAt.drewN (h : XAt w M n x) (k : Nat) : XAt (w.drewN k) M n x := ⟨h.hb, h.hS, h.hW, h.hI, h.ne, h.ok⟩
theorem XAt.lt (h : XAt w M n x) : ∀ y ∈ M.fp, y < w.heap.size := by
  intro y hx
  simp only [XL.fp, List.mem_cons, List.not_mem_nil, or_false] at hx
  rcases hx with rfl | rfl | rfl | rfl
  · exact h.hb.lt
  · exact h.hS.lt
  · exact h.hW.lt
  · exact h.hI.lt
theorem XAt.bS (h : XAt w M n x) : M.b ≠ M.gS := h.hb.ne_ h.hS (by decide)
theorem XAt.bW (h : XAt w M n x) : M.b ≠ M.gW := h.hb.ne_ h.hW (by decide)
theorem XAt.bI (h : XAt w M n x) : M.b ≠ M.gI := h.hb.ne_ h.hI (by decide)
theorem XAt.IS (h : XAt w M n x) : M.gI ≠ M.gS := h.hI.ne_ h.hS (by decide)
theorem XAt.IW (h : XAt w M n x) : M.gI ≠ M.gW := h.hI.ne_ h.hW (by decide)
theorem XAt.f0 (h : XAt w M n x) : w.cell? ⟨M.b, 0, none⟩ = some (.slice (some ⟨M.gS, 0, none⟩) n M.cS) := h.hb.cell_some rfl
theorem XAt.f1 (h : XAt w M n x) : w.cell? ⟨M.b, 1, none⟩ = some (.slice (some ⟨M.gW, 0, none⟩) n M.cW) := h.hb.cell_some rfl
theorem XAt.f2 (h : XAt w M n x) : w.cell? ⟨M.b, 2, none⟩ = some (.slice (some ⟨M.gI, 0, none⟩) n M.cI) := h.hb.cell_some rfl
theorem XAt.f3 (h : XAt w M n x) : w.cell? ⟨M.b, 3, none⟩ = some (.int .i64 x.arm) := h.hb.cell_some rfl
theorem XAt.f4 (h : XAt w M n x) : w.cell? ⟨M.b, 4, none⟩ = some (.int .i64 x.calls) := h.hb.cell_some rfl
theorem XAt.f5 (h : XAt w M n x) : w.cell? ⟨M.b, 5, none⟩ = some (.bool x.down) := h.hb.cell_some rfl
theorem XAt.fz (h : XAt w M n x) (i : Nat) (hi : i < 6) : w.frozen? ⟨M.b, i, none⟩ = false := h.hb.frozen i (by simpa [xfields] using hi)
theorem XAt.cS (h : XAt w M n x) (i : Nat) (hi : i < n) : w.cell? ⟨M.gS, i, none⟩ = some (.string (x.safe.getD i .empty)) := h.hS.cell_some (by rw [List.getElem?_toArray, sv_get _ _ _ (by rw [h.ok.safe]; exact hi)])
theorem XAt.cW (h : XAt w M n x) (i : Nat) (hi : i < n) : w.cell? ⟨M.gW, i, none⟩ = some (.string (x.new.getD i .empty)) := h.hW.cell_some (by rw [List.getElem?_toArray, sv_get _ _ _ (by rw [h.ok.new]; exact hi)])
theorem XAt.cI (h : XAt w M n x) (i : Nat) (hi : i < n) : w.cell? ⟨M.gI, i, none⟩ = some (.bool (x.is.getD i false)) := h.hI.cell_some (by rw [List.getElem?_toArray, bl_get _ _ _ (by rw [h.ok.is]; exact hi)])
theorem XAt.zS (h : XAt w M n x) (i : Nat) (hi : i < n) : w.frozen? ⟨M.gS, i, none⟩ = false := h.hS.frozen i (by simp [sv]; have := h.ok.safe; omega)
theorem XAt.zW (h : XAt w M n x) (i : Nat) (hi : i < n) : w.frozen? ⟨M.gW, i, none⟩ = false := h.hW.frozen i (by simp [sv]; have := h.ok.new; omega)
theorem XAt.zI (h : XAt w M n x) (i : Nat) (hi : i < n) : w.frozen? ⟨M.gI, i, none⟩ = false := h.hI.frozen i (by simp [bools]; have := h.ok.is; omega)
/-- new fields -/
theorem XAt.head (h : XAt w M n x) {x' : X} (B : Blk w' M.b 56 (xfields M n x')) (ho : Only [M.b] w w') (e1 : x'.safe = x.safe) (e2 : x'.new = x.new) (e3 : x'.is = x.is) : XAt w' M n x' := by
  refine ⟨B, ?_, ?_, ?_, h.ne, ⟨by rw [e1]; exact h.ok.safe, by rw [e2]; exact h.ok.new, by rw [e3]; exact h.ok.is, h.ok.small, by rw [e1]; exact h.ok.fits, by rw [e2, e3]; exact h.ok.fitn⟩⟩
  · rw [e1]; exact h.hS.only ho (by simp; exact fun e => h.bS e.symm)
  · rw [e2]; exact h.hW.only ho (by simp; exact fun e => h.bW e.symm)
  · rw [e3]; exact h.hI.only ho (by simp; exact fun e => h.bI e.symm)
end
def xp (b : Nat) : Value := .pointer (some ⟨b, 0, none⟩)

theorem xnow_any {w : World} {M : XL} {n : Nat} {x : X} (h : XAt w M n x) (i : Nat) (hi : i < n) :
    Calls Try.prog 49 #[xp M.b, .int .i64 i] w fun e w' => e = .returned (.string (x.nowF i)) ∧ w = w' := by
  have f0 := h.f0
  have f1 := h.f1
  have f2 := h.f2
  have c0 := h.cS i hi
  have c1 := h.cW i hi
  have c2 := h.cI i hi
  have hn := h.ok.small
  clear h
  unfold xp X.nowF
  cases hl : x.is.getD i false
  all_goals
    rw [hl] at c2
    go_enter Try.func49, Try.ntmps49
    go_wp2
    go_ret
    exact ⟨rfl, rfl⟩
theorem xcount_any {w : World} {M : XL} {n : Nat} {x : X} (h : XAt w M n x) (hc0 : 0 ≤ x.calls) (hc : x.calls ≤ 1000000000) (ha : 0 ≤ x.arm) (hr : x.arm ≤ 9223372036854775807) :
    Calls Try.prog 48 #[xp M.b] w fun e w' => e = .returned (.int .i64 x.countF.2) ∧ XAt w' M n x.countF.1 ∧ Only [M.b] w w' := by
  have f3 := h.f3
  have f4 := h.f4
  have f5 := h.f5
  have z3 := h.fz 3 (by omega)
  have z4 := h.fz 4 (by omega)
  have z5 := h.fz 5 (by omega)
  have H := Lib.hid h
  clear h
  unfold xp X.countF
  have h' : x.arm = 1 ∨ (¬ x.arm = 1 ∧ 1 < x.arm) ∨ (¬ x.arm = 1 ∧ ¬ 1 < x.arm) := by omega
  rcases h' with h1 | ⟨h1, h2⟩ | ⟨h1, h2⟩
  · rw [if_pos h1]
    rw [h1] at f3
    clear h1 ha hr
    go_enter Try.func48, Try.ntmps48
    go_wp2
    go_ret
    exact ⟨rfl, H.out.head (((H.out.hb.set_ 4 (.int .i64 (x.calls + 1))).set_ 5 (.bool true)).set_ 3 (.int .i64 0)) ((((Only.refl _ _).setCell (by simp) _).setCell (by simp) _).setCell (by simp) _) rfl rfl rfl, (((Only.refl _ _).setCell (by simp) _).setCell (by simp) _).setCell (by simp) _⟩
  · rw [if_neg h1, if_pos h2]
    have hb : (x.arm == 1) = false := by simpa using h1
    go_enter Try.func48, Try.ntmps48
    go_wp2
    go_ret
    exact ⟨rfl, H.out.head ((H.out.hb.set_ 4 (.int .i64 (x.calls + 1))).set_ 3 (.int .i64 (x.arm - 1))) (((Only.refl _ _).setCell (by simp) _).setCell (by simp) _) rfl rfl rfl, ((Only.refl _ _).setCell (by simp) _).setCell (by simp) _⟩
  · rw [if_neg h1, if_neg h2]
    have hb : (x.arm == 1) = false := by simpa using h1
    go_enter Try.func48, Try.ntmps48
    go_wp2
    go_ret
    exact ⟨rfl, H.out.head (H.out.hb.set_ 4 (.int .i64 (x.calls + 1))) ((Only.refl _ _).setCell (by simp) _) rfl rfl rfl, (Only.refl _ _).setCell (by simp) _⟩
def X.readF (x : X) (n : Nat) (i : Int) : ByteArray × Int := if x.down then (.empty, 13) else if 0 ≤ i ∧ i < n then (x.nowF i.toNat, 0) else (.empty, 3)
end Go.Proofs.Ytmofbgcanehdoaa.Dk

/- the document's disk: Write, Sync. -/
namespace Go.Proofs.Ytmofbgcanehdoaa.Dk
open Go.RowKit

def fillB (s : ByteArray) : ByteArray := ⟨(fillF s.data.toList).toArray⟩
theorem fillB_size (s : ByteArray) : (fillB s).size = 64 := by
  show (List.toArray _).size = 64
  rw [List.size_toArray, fillF_length]
def X.putF (x : X) (i : Nat) (s : ByteArray) : X := { x with new := x.new.set i (fillB s), is := x.is.set i true }
def X.writeF (x : X) (n : Nat) (i : Int) (s : ByteArray) : X × Int := if x.down then (x, 13) else if 0 ≤ i ∧ i < n then (x.putF i.toNat s).countF else (x, 3)
theorem getD_setS (l : List ByteArray) (k : Nat) (s : ByteArray) (i : Nat) (hk : k < l.length) : (l.set k s).getD i .empty = if k = i then s else l.getD i .empty := by
  simp only [List.getD, List.getElem?_set]
  by_cases h : k = i
  · subst h; simp [hk]
  · simp [h]
theorem X.Ok.put {x : X} {n : Nat} (h : x.Ok n) (k : Nat) (hk : k < n) (s : ByteArray) : (x.putF k s).Ok n := by
  refine ⟨h.safe, by show (List.set _ _ _).length = n; rw [List.length_set]; exact h.new, by show (List.set _ _ _).length = n; rw [List.length_set]; exact h.is, h.small, h.fits, fun i hi => ?_⟩
  show ((x.new.set k (fillB s)).getD i .empty).size = 64
  have hi : (x.is.set k true).getD i false = true := hi
  rw [getD_setS _ _ _ _ (by rw [h.new]; exact hk)]
  split
  · exact fillB_size s
  · rename_i hne
    rw [getD_setB, if_neg (by simp [hne])] at hi
    exact h.fitn i hi
theorem XAt.put {w1 : World} {M : XL} {n : Nat} {x : X} (h : XAt w1 M n x) (k : Nat) (hk : k < n) (s : ByteArray) :
    XAt ((w1.setCell ⟨M.gW, k, none⟩ (.string (fillB s))).setCell ⟨M.gI, k, none⟩ (.bool true)) M n (x.putF k s) := by
  refine ⟨(h.hb.far (by exact h.bW) _).far (by exact h.bI) _, (h.hS.far (by exact h.ne) _).far (by exact fun e => h.IS e.symm) _, ?_, ?_, h.ne, h.ok.put k hk s⟩
  · have := (h.hW.set_ k (.string (fillB s))).far (p := ⟨M.gI, k, none⟩) (fun e => h.IW e.symm) (.bool true)
    rwa [List.setIfInBounds_toArray, sv_set _ _ _ _ (by rw [h.ok.new]; exact hk)] at this
  · have := (h.hI.far (p := ⟨M.gW, k, none⟩) h.IW (.string (fillB s))).set_ k (.bool true)
    rwa [List.setIfInBounds_toArray, bl_set _ _ _ _ (by rw [h.ok.is]; exact hk)] at this
set_option maxRecDepth 100000 in
set_option maxHeartbeats 1000000 in
theorem xwrite_any {w : World} {M : XL} {n : Nat} {x : X} (h : XAt w M n x) (i : Int) (s : ByteArray) (hs : s.size ≤ 1000000) (hc0 : 0 ≤ x.calls) (hc : x.calls ≤ 1000000000) (ha : 0 ≤ x.arm) (hr : x.arm ≤ 9223372036854775807) :
    Calls Try.prog 29 #[xp M.b, .int .i64 i, .string s] w fun e w' => e = .returned (.int .i64 (x.writeF n i s).2) ∧ XAt w' M n (x.writeF n i s).1 ∧ Only M.fp w w' := by
  have f0 := h.f0
  have f5 := h.f5
  have hn := h.ok.small
  unfold X.writeF
  cases hd : x.down
  · rw [if_neg (by simp)]
    rw [hd] at f5
    by_cases hi : 0 ≤ i ∧ i < n
    · rw [if_pos hi]
      obtain ⟨k, rfl⟩ := Int.eq_ofNat_of_zero_le hi.1
      have hk : k < n := by omega
      have KF := Lib.hid (fill_any s w.drew hs)
      have H := Lib.hid h
      have f1 := h.f1
      clear h hi
      unfold xp
      simp only [Int.toNat_natCast]
      rw [show (⟨(fillF s.data.toList).toArray⟩ : ByteArray) = fillB s from rfl] at KF
      go_enter Try.func29, Try.ntmps29
      go_wp2_with fail
      go_region_with (first | (go_at_call 45; refine KF.out.mono ?_; rintro e w1 ⟨rfl, hb⟩; have H1 := Lib.hid (H.out.drew.below hb); have O1 := Lib.hid hb; have f1' := H1.out.f1; have f2' := H1.out.f2; have z1' := H1.out.zW k hk; have z2' := H1.out.zI k hk; have c1' := H1.out.cW k hk; have c2' := H1.out.cI k hk))
      all_goals
        have hbW := H1.out.bW
        have hIW := H1.out.IW
        have H2 := H1.out.put k hk s
        have KC := Lib.hid (xcount_any H2 hc0 hc ha hr)
        have O2 : Only M.fp w ((w1.setCell ⟨M.gW, k, none⟩ (.string (fillB s))).setCell ⟨M.gI, k, none⟩ (.bool true)) := ((Only.of_below (S := M.fp) (w := w) (w' := w1) (((Below.refl w.heap.size w).drew).trans O1.out)).setCell (by simp [XL.fp]) _).setCell (by simp [XL.fp]) _
        have O2 := Lib.hid O2
        unfold xp at KC
        clear H2
        go_wp2_with fail
        refine KC.out.mono ?_
        rintro e w3 ⟨rfl, H3, o3⟩
        go_wp2_with fail
        go_ret
        exact ⟨rfl, H3, O2.out.trans (o3.mono (by simp [XL.fp]))⟩
    · rw [if_neg hi]
      have H := Lib.hid h
      clear h
      unfold xp
      have hi' : i < 0 ∨ (¬ i < 0 ∧ (n : Int) ≤ i) := by omega
      clear hi
      rcases hi' with h1 | ⟨h1, h2⟩
      all_goals
        go_enter Try.func29, Try.ntmps29
        go_wp2_with fail
        go_ret
        exact ⟨rfl, H.out, Only.refl _ _⟩
  · rw [if_pos rfl]
    rw [hd] at f5
    have H := Lib.hid h
    clear h
    unfold xp
    go_enter Try.func29, Try.ntmps29
    go_wp2_with fail
    go_ret
    exact ⟨rfl, H.out, Only.refl _ _⟩
theorem X.Ok.count {x : X} {n : Nat} (h : x.Ok n) : x.countF.1.Ok n := by
  unfold X.countF
  split
  · exact ⟨h.safe, h.new, h.is, h.small, h.fits, h.fitn⟩
  · split
    · exact ⟨h.safe, h.new, h.is, h.small, h.fits, h.fitn⟩
    · exact ⟨h.safe, h.new, h.is, h.small, h.fits, h.fitn⟩
theorem X.Ok.now {x : X} {n : Nat} (h : x.Ok n) (i : Nat) (hi : i < n) : (x.nowF i).size = 64 := by
  unfold X.nowF
  split
  · rename_i hb
    exact h.fitn i hb
  · apply h.fits
    have : i < x.safe.length := by rw [h.safe]; exact hi
    simp only [List.getD, List.getElem?_eq_getElem this, Option.getD_some]
    exact List.getElem_mem this
def X.syncOne (x : X) (i : Nat) (s : ByteArray) : X := { x with safe := x.safe.set i s, is := x.is.set i false }
theorem X.Ok.syncOne {x : X} {n : Nat} (h : x.Ok n) (i : Nat) (s : ByteArray) (hs : s.size = 64) : (x.syncOne i s).Ok n := by
  refine ⟨by show (List.set _ _ _).length = n; rw [List.length_set]; exact h.safe, h.new, by show (List.set _ _ _).length = n; rw [List.length_set]; exact h.is, h.small, fun t ht => ?_, fun j hj => ?_⟩
  · have ht : t ∈ x.safe.set i s := ht
    rcases List.mem_or_eq_of_mem_set ht with h1 | h1
    · exact h.fits t h1
    · rw [h1]; exact hs
  · have hj : (x.is.set i false).getD j false = true := hj
    rw [getD_setB] at hj
    split at hj
    · cases hj
    · exact h.fitn j hj
theorem XAt.syncOne {w : World} {M : XL} {n : Nat} {x : X} (h : XAt w M n x) (i : Nat) (hi : i < n) (s : ByteArray) (hs : s.size = 64) :
    XAt ((w.setCell ⟨M.gS, i, none⟩ (.string s)).setCell ⟨M.gI, i, none⟩ (.bool false)) M n (x.syncOne i s) := by
  refine ⟨(h.hb.far (by exact h.bS) _).far (by exact h.bI) _, ?_, (h.hW.far (by exact fun e => h.ne e.symm) _).far (by exact fun e => h.IW e.symm) _, ?_, h.ne, h.ok.syncOne i s hs⟩
  · have := (h.hS.set_ i (.string s)).far (p := ⟨M.gI, i, none⟩) (fun e => h.IS e.symm) (.bool false)
    rwa [List.setIfInBounds_toArray, sv_set _ _ _ _ (by rw [h.ok.safe]; exact hi)] at this
  · have := (h.hI.far (p := ⟨M.gS, i, none⟩) h.IS (.string s)).set_ i (.bool false)
    rwa [List.setIfInBounds_toArray, bl_set _ _ _ _ (by rw [h.ok.is]; exact hi)] at this
def X.syncTo (x : X) : Nat → X
  | 0 => x
  | i + 1 => (x.syncTo i).syncOne i ((x.syncTo i).nowF i)
def X.syncF (x : X) (n : Nat) : X × Int := if x.down then (x, 13) else if x.countF.2 = 0 then (x.countF.1.syncTo n, 0) else x.countF
set_option maxRecDepth 100000 in
set_option maxHeartbeats 1000000 in
theorem xsync_any {w : World} {M : XL} {n : Nat} {x : X} (h : XAt w M n x) (hc0 : 0 ≤ x.calls) (hc : x.calls ≤ 1000000000) (ha : 0 ≤ x.arm) (hr : x.arm ≤ 9223372036854775807) :
    Calls Try.prog 24 #[xp M.b] w fun e w' => e = .returned (.int .i64 (x.syncF n).2) ∧ XAt w' M n (x.syncF n).1 ∧ Only M.fp w w' := by
  have f5 := h.f5
  have hn := h.ok.small
  unfold X.syncF
  cases hd : x.down
  · rw [if_neg (by simp)]
    rw [hd] at f5
    have KC := Lib.hid (xcount_any h hc0 hc ha hr)
    clear h
    have hr2 : x.countF.2 = 0 ∨ x.countF.2 = 13 := by unfold X.countF; split; exact .inr rfl; split; exact .inl rfl; exact .inl rfl
    generalize x.countF = y at *
    obtain ⟨y, r⟩ := y
    simp only at KC hr2 ⊢
    unfold xp at *
    rcases hr2 with rfl | rfl
    · rw [if_pos rfl]
      go_enter Try.func24, Try.ntmps24
      go_wp2_with fail
      refine KC.out.mono ?_
      rintro e w1 ⟨rfl, H1, o1⟩
      have O1 := Lib.hid (o1.mono (S' := M.fp) (by simp [XL.fp]))
      go_wp2_with fail
      go_loopw [4] (fun iv wr => ∃ i : Nat, i ≤ n ∧ iv = .int .i64 i ∧ XAt wr M n (y.syncTo i) ∧ Only M.fp w wr) (fun iv _ => n - (intOf iv).toNat)
      case atStart => exact ⟨0, by omega, rfl, H1, O1.out⟩
      case round =>
        obtain ⟨i, hi, rfl, H2, O2⟩ := hrel
        have f0 := H2.f0
        have f2 := H2.f2
        by_cases h : i < n
        · have KN := Lib.hid (xnow_any H2.drew i h)
          have H3 := Lib.hid (H2.drew.syncOne i h _ (H2.ok.now i h))
          have HS := Lib.hid (show y.syncTo (i + 1) = (y.syncTo i).syncOne i ((y.syncTo i).nowF i) from rfl)
          have zS := H2.zS i h
          have zI := H2.zI i h
          have cS := H2.cS i h
          have cI := H2.cI i h
          have hbS := H2.bS
          have hIS := H2.IS
          have O3 := Lib.hid (((O2.drew).setCell (p := ⟨M.gS, i, none⟩) (by simp [XL.fp]) (.string ((y.syncTo i).nowF i))).setCell (p := ⟨M.gI, i, none⟩) (by simp [XL.fp]) (.bool false))
          unfold xp at KN
          clear H2 O2 H1
          generalize y.syncTo i = z at *
          generalize z.nowF i = s at *
          go_wp2_with fail
          go_region_with (first | (go_at_call 49; refine KN.out.mono ?_; rintro e w4 ⟨rfl, rfl⟩))
          all_goals
            go_wp2_with fail
            go_roundw
          all_goals first | exact ⟨i + 1, by omega, by go_num, by rw [HS.out]; exact H3.out, O3.out⟩ | (simp [intOf]; omega)
        · have hin : i = n := by omega
          subst hin
          have HD := Lib.hid H2
          clear H2
          go_wp2_with fail
          go_ret
          exact ⟨rfl, HD.out, O2⟩
    · rw [if_neg (by decide)]
      go_enter Try.func24, Try.ntmps24
      go_wp2_with fail
      refine KC.out.mono ?_
      rintro e w1 ⟨rfl, H1, o1⟩
      go_wp2_with fail
      go_ret
      exact ⟨rfl, H1, o1.mono (by simp [XL.fp])⟩
  · rw [if_pos rfl]
    rw [hd] at f5
    have H := Lib.hid h
    clear h
    unfold xp
    go_enter Try.func24, Try.ntmps24
    go_wp2_with fail
    go_ret
    exact ⟨rfl, H.out, Only.refl _ _⟩
end Go.Proofs.Ytmofbgcanehdoaa.Dk

/- the document's disk: Crash. -/
namespace Go.Proofs.Ytmofbgcanehdoaa.Dk
open Go.RowKit

def cutB (k : Nat) (a b : ByteArray) : ByteArray := a.extract 0 k ++ b.extract k 64
def X.crashTo (C : Cr) (x : X) : Nat → X × Nat
  | 0 => (x, 0)
  | i + 1 => if (x.crashTo C i).1.is.getD i false then ((x.crashTo C i).1.syncOne i (cutB (C.leftF (x.crashTo C i).2) ((x.crashTo C i).1.new.getD i .empty) ((x.crashTo C i).1.safe.getD i .empty)), (x.crashTo C i).2 + 1) else x.crashTo C i
def X.crashF (C : Cr) (x : X) (n : Nat) : X := { (x.crashTo C n).1 with down := false, arm := 0 }
theorem cutB_size (k : Nat) (a b : ByteArray) (hk : k ≤ 64) (ha : a.size = 64) (hb : b.size = 64) : (cutB k a b).size = 64 := by
  unfold cutB; simp [ha, hb]; omega
theorem cutB_zero (a b : ByteArray) : cutB 0 a b = b.extract 0 64 := by simp [cutB]
theorem cutB_all (a b : ByteArray) : cutB 64 a b = a.extract 0 64 := by simp [cutB]
theorem X.Ok.safe64 {x : X} {n : Nat} (h : x.Ok n) (i : Nat) (hi : i < n) : (x.safe.getD i .empty).size = 64 := by
  apply h.fits
  have : i < x.safe.length := by rw [h.safe]; exact hi
  simp only [List.getD, List.getElem?_eq_getElem this, Option.getD_some]
  exact List.getElem_mem this
theorem crashTo_le (C : Cr) (x : X) : ∀ i, (x.crashTo C i).2 ≤ i
  | 0 => Nat.le_refl 0
  | i + 1 => by
    have := crashTo_le C x i
    rw [X.crashTo]
    split
    · show _ + 1 ≤ _; omega
    · omega
set_option maxRecDepth 100000 in
set_option maxHeartbeats 8000000 in
theorem xcrash_any {w : World} {M : XL} {n : Nat} {x : X} (h : XAt w M n x) (C : Cr) (hC : C.At w) (hm : C.m ≤ 9223372036854775807) (hap : ∀ ad, C.A = some ad → 0 < C.m → ad.block ∉ M.fp) :
    Calls Try.prog 27 #[xp M.b, C.val] w fun e w' => e = .returned (.tuple #[]) ∧ XAt w' M n (x.crashF C n) ∧ Only M.fp w w' := by
  have hn := h.ok.small
  have O0 := Lib.hid ((Below.refl w.heap.size w).alloc (Nat.le_refl _) (.cells #[.slice C.A C.m C.c, .int .i64 C.torn, .int .i64 C.bytes] 48))
  have B0 := Lib.hid (Blk.new w 48 #[.slice C.A C.m C.c, .int .i64 C.torn, .int .i64 C.bytes])
  have D0 := Lib.hid (h.below O0.out)
  have C0 := Lib.hid (hC.below O0.out)
  have hlt := Lib.hid h.lt
  have HAP := Lib.hid hap
  clear h hC hap
  unfold xp Cr.val
  go_enter Try.func27, Try.ntmps27
  go_wp2_with fail
  generalize w.alloc (.cells #[.slice C.A C.m C.c, .int .i64 C.torn, .int .i64 C.bytes] 48) = W at *
  generalize hx : w.heap.size = q at *
  have hx' := Lib.hid hx
  clear hx
  go_loopw [4, 5] (fun jv iv wr => ∃ i : Nat, i ≤ n ∧ iv = .int .i64 i ∧ jv = .int .i64 (x.crashTo C i).2 ∧ XAt wr M n (x.crashTo C i).1 ∧ Blk wr q 48 #[.slice C.A C.m C.c, .int .i64 C.torn, .int .i64 C.bytes] ∧ C.At wr ∧ Only M.fp W wr) (fun _ iv _ => n - (intOf iv).toNat)
  case atStart => exact ⟨0, by omega, rfl, rfl, D0.out, B0.out, C0.out, Only.refl _ _⟩
  case round =>
    obtain ⟨i, hi, rfl, rfl, hD, hB, hCw, hO⟩ := hrel
    have f0 := hD.f0
    have f1 := hD.f1
    have f2 := hD.f2
    by_cases h : i < n
    · have hjl := crashTo_le C x i
      have cI := hD.cI i h
      have HS := Lib.hid (show x.crashTo C (i + 1) = if (x.crashTo C i).1.is.getD i false then ((x.crashTo C i).1.syncOne i (cutB (C.leftF (x.crashTo C i).2) ((x.crashTo C i).1.new.getD i .empty) ((x.crashTo C i).1.safe.getD i .empty)), (x.crashTo C i).2 + 1) else x.crashTo C i from rfl)
      generalize x.crashTo C i = T at *
      obtain ⟨z, j⟩ := T
      simp only at hD hjl cI HS
      cases hl : z.is.getD i false
      · rw [hl] at cI
        have HS := Lib.hid (show x.crashTo C (i + 1) = (z, j) by rw [HS.out, hl]; rfl)
        have HD := Lib.hid hD
        clear hl hD
        go_wp2_with fail
        go_roundw
        case rel => exact ⟨i + 1, by omega, by go_num, by rw [HS.out], by rw [HS.out]; exact HD.out, hB, hCw, hO⟩
        case measure => simp [intOf]; omega
      · rw [hl] at cI
        have HS := Lib.hid (show x.crashTo C (i + 1) = (z.syncOne i (cutB (C.leftF j) (z.new.getD i .empty) (z.safe.getD i .empty)), j + 1) by rw [HS.out, hl]; rfl)
        have hleft := C.left_le j
        have ha := hD.ok.fitn i hl
        have hb := hD.ok.safe64 i h
        have cS := hD.cS i h
        have cW := hD.cW i h
        have zS := hD.zS i h
        have zI := hD.zI i h
        have hbS := hD.bS
        have hIS := hD.IS
        have H3 := Lib.hid (hD.drew.syncOne i h (cutB (C.leftF j) (z.new.getD i .empty) (z.safe.getD i .empty)) (cutB_size _ _ _ hleft ha hb))
        have c0 : wr.cell? ⟨q, 0, none⟩ = some (.slice C.A C.m C.c) := hB.cell_some rfl
        have c1 : wr.cell? ⟨q, 1, none⟩ = some (.int .i64 C.torn) := hB.cell_some rfl
        have c2 : wr.cell? ⟨q, 2, none⟩ = some (.int .i64 C.bytes) := hB.cell_some rfl
        clear hl
        generalize z.new.getD i .empty = a at *
        generalize z.safe.getD i .empty = b at *
        have hkp := hCw j
        have hside : ∃ k : Nat, C.leftF j = k ∧ k ≤ 64 ∧ ((((j : Int) == C.torn) = true ∧ 0 < C.bytes ∧ C.bytes % 65 = (k : Int)) ∨ (((j : Int) == C.torn) = true ∧ ¬ 0 < C.bytes ∧ k = 0) ∨ (((j : Int) == C.torn) = false ∧ k = if j < C.m ∧ C.kp j = true then 64 else 0)) := by
          refine ⟨_, rfl, hleft, ?_⟩
          unfold Cr.leftF
          by_cases h1 : (j : Int) = C.torn
          · by_cases h2 : 0 < C.bytes
            · left; rw [if_pos h1, if_pos h2]; exact ⟨by simpa using h1, h2, by omega⟩
            · right; left; rw [if_pos h1, if_neg h2]; exact ⟨by simpa using h1, h2, rfl⟩
          · right; right; rw [if_neg h1]; exact ⟨by simpa using h1, rfl⟩
        obtain ⟨k, hk, hk64, hside⟩ := hside
        rw [hk] at H3 HS
        have O3 := Lib.hid ((hO.drew.setCell (p := ⟨M.gS, i, none⟩) (by simp [XL.fp]) (.string (cutB k a b))).setCell (p := ⟨M.gI, i, none⟩) (by simp [XL.fp]) (.bool false))
        have hq : q ∉ M.fp := fun e => by have := hlt.out q e; have := hx'.out; omega
        have B3 := Lib.hid ((hB.drew.far (p := ⟨M.gS, i, none⟩) (fun e => hq (by simp [XL.fp, e])) (.string (cutB k a b))).far (p := ⟨M.gI, i, none⟩) (fun e => hq (by simp [XL.fp, e])) (.bool false))
        have C3 := Lib.hid (hCw.only (S := M.fp) (((Only.refl _ wr).drew.setCell (p := ⟨M.gS, i, none⟩) (by simp [XL.fp]) (.string (cutB k a b))).setCell (p := ⟨M.gI, i, none⟩) (by simp [XL.fp]) (.bool false)) HAP.out)
        clear hk hleft hD hB hCw hO hq
        rcases hside with ⟨t1, t2, t3⟩ | ⟨t1, t2, rfl⟩ | ⟨t1, t2⟩
        · by_cases hjm : j < C.m
          · obtain ⟨ad, hA, hcell⟩ := hkp hjm
            rw [hA] at c0
            clear hkp hA
            cases hv : C.kp j
            all_goals
              rw [hv] at hcell
              clear hv
              go_wp2_with fail
              go_region
              all_goals go_wp2_with fail
              all_goals go_roundw
              all_goals first | exact ⟨i + 1, by omega, by go_num, by rw [HS.out]; go_num, by rw [HS.out]; exact H3.out, B3.out, C3.out, O3.out⟩ | (simp [intOf]; omega)
          · clear hkp
            go_wp2_with fail
            go_region
            all_goals go_wp2_with fail
            all_goals go_roundw
            all_goals first | exact ⟨i + 1, by omega, by go_num, by rw [HS.out]; go_num, by rw [HS.out]; exact H3.out, B3.out, C3.out, O3.out⟩ | (simp [intOf]; omega)
        · rw [cutB_zero] at H3 B3 C3 O3 HS
          by_cases hjm : j < C.m
          · obtain ⟨ad, hA, hcell⟩ := hkp hjm
            rw [hA] at c0
            clear hkp hA
            cases hv : C.kp j
            all_goals
              rw [hv] at hcell
              clear hv
              go_wp2_with fail
              go_region
              all_goals go_wp2_with fail
              all_goals go_roundw
              all_goals first | exact ⟨i + 1, by omega, by go_num, by rw [HS.out]; go_num, by rw [HS.out]; exact H3.out, B3.out, C3.out, O3.out⟩ | (simp [intOf]; omega)
          · clear hkp
            go_wp2_with fail
            go_region
            all_goals go_wp2_with fail
            all_goals go_roundw
            all_goals first | exact ⟨i + 1, by omega, by go_num, by rw [HS.out]; go_num, by rw [HS.out]; exact H3.out, B3.out, C3.out, O3.out⟩ | (simp [intOf]; omega)
        · by_cases hjm : j < C.m
          · obtain ⟨ad, hA, hcell⟩ := hkp hjm
            rw [hA] at c0
            clear hkp hA
            cases hv : C.kp j
            · rw [hv, if_neg (by simp)] at t2
              rw [hv] at hcell
              subst t2
              rw [cutB_zero] at H3 B3 C3 O3 HS
              clear hv
              go_wp2_with fail
              go_region
              all_goals go_wp2_with fail
              all_goals go_roundw
              all_goals first | exact ⟨i + 1, by omega, by go_num, by rw [HS.out]; go_num, by rw [HS.out]; exact H3.out, B3.out, C3.out, O3.out⟩ | (simp [intOf]; omega)
            · rw [hv, if_pos ⟨hjm, rfl⟩] at t2
              rw [hv] at hcell
              subst t2
              clear hv
              rw [cutB_all] at H3 B3 C3 O3 HS
              go_wp2_with fail
              go_region
              all_goals go_wp2_with fail
              all_goals go_roundw
              all_goals first | exact ⟨i + 1, by omega, by go_num, by rw [HS.out]; go_num, by rw [HS.out]; exact H3.out, B3.out, C3.out, O3.out⟩ | (simp [intOf]; omega)
          · rw [if_neg (by simp [hjm])] at t2
            subst t2
            rw [cutB_zero] at H3 B3 C3 O3 HS
            clear hkp
            go_wp2_with fail
            go_region
            all_goals go_wp2_with fail
            all_goals go_roundw
            all_goals first | exact ⟨i + 1, by omega, by go_num, by rw [HS.out]; go_num, by rw [HS.out]; exact H3.out, B3.out, C3.out, O3.out⟩ | (simp [intOf]; omega)
    · have hin : i = n := by omega
      subst hin
      have f3 := hD.f3
      have f5 := hD.f5
      have z3 := hD.fz 3 (by omega)
      have z5 := hD.fz 5 (by omega)
      have HD := Lib.hid hD
      clear hD
      go_wp2_with fail
      go_end0
      have o1 : Only [M.b] wr ((wr.setCell ⟨M.b, 5, none⟩ (.bool false)).setCell ⟨M.b, 3, none⟩ (.int .i64 0)) := ((Only.refl _ _).setCell (by simp) _).setCell (by simp) _
      exact ⟨rfl, HD.out.head (x' := x.crashF C i) ((HD.out.hb.set_ 5 (.bool false)).set_ 3 (.int .i64 0)) o1 rfl rfl rfl, ((Only.of_below (by rw [hx'.out]; exact O0.out)).trans hO).trans (o1.mono (by simp [XL.fp]))⟩
end Go.Proofs.Ytmofbgcanehdoaa.Dk

/- the document's disk: Made. -/
namespace Go.Proofs.Ytmofbgcanehdoaa
open Go.RowKit
theorem Slc.blkOf {w : World} {e : TypeId} {size n : Nat} {v : Value} {l : List Value} (h : Slc w e size v n l) : ∀ g ∈ ownB v, ∃ cs, Blk w g e cs := by
  rcases h.2 with ⟨rfl, _⟩ | ⟨g, cap, rest, rfl, B, _⟩
  · simp [ownB]
  · intro x hx; simp [ownB] at hx; subst hx; exact ⟨_, B⟩
theorem Slc.ne_blk {w : World} {e t : TypeId} {size n b : Nat} {v : Value} {l : List Value} {cs : Array Value} (h : Slc w e size v n l) (B : Blk w b t cs) (hne : t ≠ e) : b ∉ ownB v := by
  intro hb
  obtain ⟨_, B'⟩ := h.blkOf b hb
  exact (B.ne_ B' hne) rfl
theorem Slc.ne_slc {w : World} {e e' : TypeId} {size n n' : Nat} {v v' : Value} {l l' : List Value} (h : Slc w e size v n l) (h' : Slc w e' size v' n' l') (hne : e ≠ e') : ∀ g ∈ ownB v, g ∉ ownB v' := by
  intro g hg
  obtain ⟨_, B⟩ := h.blkOf g hg
  exact h'.ne_blk B hne
theorem Slc.notIn {w : World} {e t : TypeId} {size n b : Nat} {v : Value} {l : List Value} {cs : Array Value} (h : Slc w e size v n l) (B : Blk w b t cs) (hne : t ≠ e) : ∀ g ∈ ownB v, g ∉ [b] := by
  intro g hg hb
  simp at hb; subst hb
  exact h.ne_blk B hne hg
end Go.Proofs.Ytmofbgcanehdoaa
namespace Go.Proofs.Ytmofbgcanehdoaa.Dk
open Go.RowKit
/-- an append's run, whatever its words are yet -/
noncomputable def appRunX (P : Program) (T ty : TypeId) (w : World) (xs : Array Value) : Result Value := (Builtin.append_ #[T, T] ty xs).run P w
theorem run_app (P : Program) (T ty : TypeId) (w : World) (xs : Array Value) : (Builtin.append_ #[T, T] ty xs).run P w = appRunX P T ty w xs := rfl
theorem appRunX_two (P : Program) (T ty : TypeId) (w : World) (s x : Value) : appRunX P T ty w #[s, x] = appRun P T ty w s x := rfl
attribute [local go_sem ↓] Go.wp_at_zero Go.wp_at_succ
attribute [local go_sem ↓] exec_app run_app
attribute [local go_sem] appRunX_two

def zeroB : ByteArray := fillB .empty
def X.made (n : Nat) : X := { safe := List.replicate n zeroB, new := List.replicate n .empty, is := List.replicate n false, arm := 0, calls := 0, down := false }
theorem sv_succ (k : Nat) (s : ByteArray) : sv (List.replicate k s) ++ [.string s] = sv (List.replicate (k + 1) s) := by
  rw [List.replicate_succ']; simp [sv]
theorem bl_succ (k : Nat) (s : Bool) : bools (List.replicate k s) ++ [.bool s] = bools (List.replicate (k + 1) s) := by
  rw [List.replicate_succ']; simp [bools]
/-- a disk that is being made -/
structure Mk (w0 : Nat) (w : World) (b kS kW kI : Nat) (vS vW vI : Value) : Prop where
  hb : Blk w b 56 #[vS, vW, vI, .int .i64 0, .int .i64 0, .bool false]
  hS : Slc w 9 1 vS kS (sv (List.replicate kS zeroB))
  hW : Slc w 9 1 vW kW (sv (List.replicate kW .empty))
  hI : Slc w 4 1 vI kI (bools (List.replicate kI false))
  sw : ∀ g ∈ ownB vS, g ∉ ownB vW
  nb : w0 ≤ b
  nS : ∀ g ∈ ownB vS, w0 ≤ g
  nW : ∀ g ∈ ownB vW, w0 ≤ g
  nI : ∀ g ∈ ownB vI, w0 ≤ g
theorem info_string : (Try.prog.info? 9).map (fun i => (i.zero, i.size, i.bytes)) = some (some (.string .empty), 1, 16) := by kernel_rfl
theorem info_bool1 : (Try.prog.info? 4).map (fun i => (i.zero, i.size, i.bytes)) = some (some (.bool false), 1, 1) := by kernel_rfl
theorem Mk.stepS {w0 : Nat} {w : World} {b kS kW kI : Nat} {vS vW vI : Value} (h : Mk w0 w b kS kW kI vS vW vI) (h0 : w0 ≤ w.heap.size) (hk : kS ≤ 4096) :
    ∃ v' w', appRun Try.prog 54 54 (w.alloc (.cells #[.string zeroB] 9)) vS (.slice (some ⟨w.heap.size, 0, none⟩) 1 1) = .ok v' w' ∧ Mk w0 (w'.setCell ⟨b, 0, none⟩ v') b (kS + 1) kW kI v' vW vI ∧ Below w0 w (w'.setCell ⟨b, 0, none⟩ v') ∧ w'.cell? ⟨b, 0, none⟩ = some vS ∧ w'.frozen? ⟨b, 0, none⟩ = false := by
  obtain ⟨v', w', ea, S', o, F⟩ := append_one (P := Try.prog) h.hS 54 54 (.string .empty) 16 Try.underlying54 info_string rfl (.string zeroB) rfl (by unfold maxLen; omega) (by omega)
  rw [sv_succ] at S'
  have hbS : b ∉ ownB vS := h.hS.ne_blk h.hb (by decide)
  have B' := h.hb.only o hbS
  have W' := h.hW.only o (fun g hg hg' => h.sw g hg' hg)
  have I' := h.hI.only o (fun g hg hg' => h.hI.ne_slc h.hS (by decide) g hg hg')
  have n' : ∀ g ∈ ownB v', w0 ≤ g := fun g hg => (F g hg).elim (h.nS g) (fun h => Nat.le_trans h0 h)
  have o2 : Only [b] w' (w'.setCell ⟨b, 0, none⟩ v') := (Only.refl _ _).setCell (by simp) _
  refine ⟨v', w', ea, ⟨?_, S'.only o2 (S'.notIn B' (by decide)), W'.only o2 (W'.notIn B' (by decide)), I'.only o2 (I'.notIn B' (by decide)), ?_, h.nb, n', h.nW, h.nI⟩, ?_, B'.cell_some rfl, B'.frozen 0 (by simp)⟩
  · exact B'.set_ 0 v'
  · intro g hg
    rcases F g hg with h1 | h1
    · exact h.sw g h1
    · intro hg'
      have := h.hW.lt g hg'
      omega
  · exact (o.below_of h0 h.nS).setCell h.nb _
theorem Mk.stepW {w0 : Nat} {w : World} {b kS kW kI : Nat} {vS vW vI : Value} (h : Mk w0 w b kS kW kI vS vW vI) (h0 : w0 ≤ w.heap.size) (hk : kW ≤ 4096) :
    ∃ v' w', appRun Try.prog 54 54 (w.alloc (.cells #[.string .empty] 9)) vW (.slice (some ⟨w.heap.size, 0, none⟩) 1 1) = .ok v' w' ∧ Mk w0 (w'.setCell ⟨b, 1, none⟩ v') b kS (kW + 1) kI vS v' vI ∧ Below w0 w (w'.setCell ⟨b, 1, none⟩ v') ∧ w'.cell? ⟨b, 1, none⟩ = some vW ∧ w'.frozen? ⟨b, 1, none⟩ = false := by
  obtain ⟨v', w', ea, S', o, F⟩ := append_one (P := Try.prog) h.hW 54 54 (.string .empty) 16 Try.underlying54 info_string rfl (.string .empty) rfl (by unfold maxLen; omega) (by omega)
  rw [sv_succ] at S'
  have hbW : b ∉ ownB vW := h.hW.ne_blk h.hb (by decide)
  have B' := h.hb.only o hbW
  have W' := h.hS.only o (fun g hg hg' => h.sw g hg hg')
  have I' := h.hI.only o (fun g hg hg' => h.hI.ne_slc h.hW (by decide) g hg hg')
  have n' : ∀ g ∈ ownB v', w0 ≤ g := fun g hg => (F g hg).elim (h.nW g) (fun h => Nat.le_trans h0 h)
  have o2 : Only [b] w' (w'.setCell ⟨b, 1, none⟩ v') := (Only.refl _ _).setCell (by simp) _
  refine ⟨v', w', ea, ⟨?_, W'.only o2 (W'.notIn B' (by decide)), S'.only o2 (S'.notIn B' (by decide)), I'.only o2 (I'.notIn B' (by decide)), ?_, h.nb, h.nS, n', h.nI⟩, ?_, B'.cell_some rfl, B'.frozen 1 (by simp)⟩
  · exact B'.set_ 1 v'
  · intro g hg hg'
    rcases F g hg' with h1 | h1
    · exact h.sw g hg h1
    · have := h.hS.lt g hg
      omega
  · exact (o.below_of h0 h.nW).setCell h.nb _
theorem Mk.stepI {w0 : Nat} {w : World} {b kS kW kI : Nat} {vS vW vI : Value} (h : Mk w0 w b kS kW kI vS vW vI) (h0 : w0 ≤ w.heap.size) (hk : kI ≤ 4096) :
    ∃ v' w', appRun Try.prog 46 46 (w.alloc (.cells #[.bool false] 4)) vI (.slice (some ⟨w.heap.size, 0, none⟩) 1 1) = .ok v' w' ∧ Mk w0 (w'.setCell ⟨b, 2, none⟩ v') b kS kW (kI + 1) vS vW v' ∧ Below w0 w (w'.setCell ⟨b, 2, none⟩ v') ∧ w'.cell? ⟨b, 2, none⟩ = some vI ∧ w'.frozen? ⟨b, 2, none⟩ = false := by
  obtain ⟨v', w', ea, S', o, F⟩ := append_one (P := Try.prog) h.hI 46 46 (.bool false) 1 Try.underlying46 info_bool1 rfl (.bool false) rfl (by unfold maxLen; omega) (by omega)
  rw [bl_succ] at S'
  have hbI : b ∉ ownB vI := h.hI.ne_blk h.hb (by decide)
  have B' := h.hb.only o hbI
  have W' := h.hS.only o (fun g hg hg' => h.hS.ne_slc h.hI (by decide) g hg hg')
  have I' := h.hW.only o (fun g hg hg' => h.hW.ne_slc h.hI (by decide) g hg hg')
  have n' : ∀ g ∈ ownB v', w0 ≤ g := fun g hg => (F g hg).elim (h.nI g) (fun h => Nat.le_trans h0 h)
  have o2 : Only [b] w' (w'.setCell ⟨b, 2, none⟩ v') := (Only.refl _ _).setCell (by simp) _
  refine ⟨v', w', ea, ⟨B'.set_ 2 v', W'.only o2 (W'.notIn B' (by decide)), I'.only o2 (I'.notIn B' (by decide)), S'.only o2 (S'.notIn B' (by decide)), h.sw, h.nb, h.nS, h.nW, n'⟩, (o.below_of h0 h.nI).setCell h.nb _, B'.cell_some rfl, B'.frozen 2 (by simp)⟩
theorem Mk.below {w0 : Nat} {w w' : World} {b kS kW kI : Nat} {vS vW vI : Value} (h : Mk w0 w b kS kW kI vS vW vI) (hb : Below w.heap.size w w') : Mk w0 w' b kS kW kI vS vW vI :=
  ⟨h.hb.below hb h.hb.lt, h.hS.below hb, h.hW.below hb, h.hI.below hb, h.sw, h.nb, h.nS, h.nW, h.nI⟩
set_option maxRecDepth 100000 in
set_option maxHeartbeats 4000000 in
theorem xmade_any (n : Nat) (w : World) (hn : n ≤ 4096) :
    Calls Try.prog 20 #[.int .i64 n] w fun e w' => ∃ b vS vW vI, e = .returned (xp b) ∧ Mk w.heap.size w' b n n n vS vW vI ∧ Below w.heap.size w w' := by
  have O0 := (Below.refl w.heap.size w).alloc (Nat.le_refl _) (.cells #[.slice none 0 0, .slice none 0 0, .slice none 0 0, .int .i64 0, .int .i64 0, .bool false] 56)
  have M0 : Mk w.heap.size (w.alloc (.cells #[.slice none 0 0, .slice none 0 0, .slice none 0 0, .int .i64 0, .int .i64 0, .bool false] 56)) w.heap.size 0 0 0 (.slice none 0 0) (.slice none 0 0) (.slice none 0 0) :=
    ⟨Blk.new _ _ _, Slc.nil _ _ _, Slc.nil _ _ _, Slc.nil _ _ _, by simp [ownB], Nat.le_refl _, by simp [ownB], by simp [ownB], by simp [ownB]⟩
  unfold xp
  go_enter Try.func20, Try.ntmps20
  go_wp2_with fail
  generalize w.alloc (.cells #[.slice none 0 0, .slice none 0 0, .slice none 0 0, .int .i64 0, .int .i64 0, .bool false] 56) = W at *
  generalize hq : w.heap.size = q at *
  have HQ := Lib.hid hq
  clear hq
  go_loopw [4] (fun iv wr => ∃ (k : Nat) (vS vW vI : Value), k ≤ n ∧ iv = .int .i64 k ∧ Mk q wr q k k k vS vW vI ∧ Below q w wr) (fun iv _ => n - (intOf iv).toNat)
  case atStart => exact ⟨0, _, _, _, by omega, rfl, M0, O0⟩
  case round =>
    obtain ⟨k, vS, vW, vI, hk, rfl, hM, hO⟩ := hrel
    by_cases h : k < n
    · have KF := Lib.hid (fill_any .empty wr.drew (by decide))
      rw [show (⟨(fillF (ByteArray.empty).data.toList).toArray⟩ : ByteArray) = zeroB from rfl] at KF
      obtain ⟨aS, bS, rfl⟩ := slc_val hM.hS
      obtain ⟨aW, bW, rfl⟩ := slc_val hM.hW
      obtain ⟨aI, bI, rfl⟩ := slc_val hM.hI
      have f0 := hM.hb.cell_some (i := 0) rfl
      have HM := Lib.hid hM
      have HO := Lib.hid hO
      clear hM hO
      go_wp2_with fail
      go_region_with (first | (go_at_call 45; refine KF.out.mono ?_; rintro e w1 ⟨rfl, hb⟩; have hs1 : q ≤ w1.heap.size := HQ.out ▸ Nat.le_trans HO.out.size hb.size; have M1 := HM.out.below (w' := w1) (((Below.refl wr.heap.size wr).drew).trans hb); have f0' := M1.hb.cell_some (i := 0) rfl; have hnn : w1.heap.size ≠ q := World.new_ne w1 ⟨q, 0, none⟩ f0'; have hnm : q ≠ w1.heap.size := fun e => hnn e.symm; have hnl : q < w1.heap.size := M1.hb.lt; obtain ⟨v1, w2, ea, M2, hb2, f02, z02⟩ := M1.stepS hs1 (by omega); obtain ⟨a1, b1, rfl⟩ := slc_val M2.hS; have M2 := Lib.hid M2; have hb1 := Lib.hid hb; have hb2 := Lib.hid hb2; clear hb M1))
      all_goals
        clear ea f02 z02 f0 f0' hnn hnm hnl KF
        have HO1 := Lib.hid ((HO.out.drew).trans (hb1.out.mono (by have h1 := HO.out.size; have h2 := HQ.out; simp; omega)))
        have HO2 := Lib.hid (show Below q w (w2.setCell ⟨q, 0, none⟩ (.slice a1 (k + 1) b1)) from ⟨hb2.out.os.trans HO1.out.os, hb2.out.tape.trans HO1.out.tape, hb2.out.output.trans HO1.out.output, Nat.le_trans HO1.out.size hb2.out.size, fun i hi => (hb2.out.block i hi).trans (HO1.out.block i hi)⟩)
        clear hb1 hb2 HO1
        generalize w2.setCell ⟨q, 0, none⟩ (.slice a1 (k + 1) b1) = w3 at *
        have hs3 : q ≤ w3.heap.size := Nat.le_of_lt M2.out.hb.lt
        have f1 := M2.out.hb.cell_some (i := 1) rfl
        obtain ⟨v4, w4, eb, M4, hb4, f14, z14⟩ := M2.out.stepW hs3 (by omega)
        obtain ⟨a4, b4, rfl⟩ := slc_val M4.hW
        have M4 := Lib.hid M4
        have HO4 := Lib.hid (HO2.out.trans (hb4))
        clear hb4 HO2
        change appRun Try.prog 54 54 (w3.alloc (.cells #[.string ⟨#[]⟩] 9)) _ _ = _ at eb
        go_upto_region 7 with (fail)
        clear eb f14 z14 f1
        have M4' := M4.out
        generalize w4.setCell ⟨q, 1, none⟩ (.slice a4 (k + 1) b4) = w5 at *
        have f2 := M4'.hb.cell_some (i := 2) rfl
        obtain ⟨v6, w6, ec, M6, hb6, f26, z26⟩ := M4'.stepI (Nat.le_of_lt M4'.hb.lt) (by omega)
        obtain ⟨a6, b6, rfl⟩ := slc_val M6.hI
        have M6 := Lib.hid M6
        have HO6 := Lib.hid (show Below q w (w6.setCell ⟨q, 2, none⟩ (.slice a6 (k + 1) b6)) from ⟨hb6.os.trans HO4.out.os, hb6.tape.trans HO4.out.tape, hb6.output.trans HO4.out.output, Nat.le_trans HO4.out.size hb6.size, fun i hi => (hb6.block i hi).trans (HO4.out.block i hi)⟩)
        clear hb6 HO4 M4' M2
        go_wp2_with fail
        go_roundw
        case rel => exact ⟨k + 1, _, _, _, by omega, by go_num, M6.out, HO6.out⟩
        case measure => simp [intOf]; omega
    · have hkn : k = n := by omega
      subst hkn
      go_wp2_with fail
      go_ret
      cases HQ.out
      exact ⟨_, vS, vW, vI, rfl, hM, hO⟩
end Go.Proofs.Ytmofbgcanehdoaa.Dk

/- the disk and the document's disk, with one content. -/
namespace Go.Proofs.Ytmofbgcanehdoaa.Dk
open Go.RowKit

structure Rel (n : Nat) (d : D) (x : X) : Prop where
  dok : d.Ok n
  xok : x.Ok n
  lo : d.loose = x.is
  now : ∀ i, i < n → sec d.now i = (x.nowF i).data.toList
  old : ∀ i, i < n → x.is.getD i false = true → sec d.old i = (x.safe.getD i .empty).data.toList
  arm : d.armed = x.arm
  calls : d.calls = x.calls
  down : d.down = x.down
section
variable {n : Nat} {d : D} {x : X}
theorem X.now_safe {x : X} {i : Nat} (h : x.is.getD i false = false) : x.nowF i = x.safe.getD i .empty := by unfold X.nowF; rw [h]; rfl
theorem X.now_new {x : X} {i : Nat} (h : x.is.getD i false = true) : x.nowF i = x.new.getD i .empty := by unfold X.nowF; rw [h]; rfl
theorem set_same (l : List Bool) (i : Nat) (b : Bool) (h : l.getD i false = b) (hi : i < l.length) : l.set i b = l := by
  apply List.ext_getElem?
  intro j
  rw [List.getElem?_set]
  by_cases e : i = j
  · subst e
    rw [if_pos rfl, if_pos hi]
    rw [List.getElem?_eq_getElem hi]
    simp only [List.getD, List.getElem?_eq_getElem hi, Option.getD_some] at h
    rw [h]
  · rw [if_neg e]
theorem Rel.count (h : Rel n d x) (hd : x.down = false) : d.countF.2 = x.countF.2 ∧ Rel n d.countF.1 x.countF.1 := by
  have ha := h.dok.armed
  have e := h.arm
  have hk := h.dok.count
  have hx := h.xok.count
  have hc := h.calls
  by_cases h0 : d.armed = 0
  · have e1 : d.countF = ({ d with calls := d.calls + 1 }, 0) := by unfold D.countF; rw [if_pos h0]
    have e2 : x.countF = ({ x with calls := x.calls + 1 }, 0) := by unfold X.countF; rw [if_neg (by omega), if_neg (by omega)]
    rw [e1] at hk ⊢
    rw [e2] at hx ⊢
    exact ⟨rfl, hk, hx, h.lo, h.now, h.old, h.arm, by show d.calls + 1 = x.calls + 1; omega, h.down⟩
  · by_cases h1 : d.armed = 1
    · have e1 : d.countF = ({ d with calls := d.calls + 1, armed := 0, down := true }, 13) := by unfold D.countF; rw [if_neg h0, if_pos h1]
      have e2 : x.countF = ({ x with calls := x.calls + 1, arm := 0, down := true }, 13) := by unfold X.countF; rw [if_pos (by omega)]
      rw [e1] at hk ⊢
      rw [e2] at hx ⊢
      exact ⟨rfl, hk, hx, h.lo, h.now, h.old, rfl, by show d.calls + 1 = x.calls + 1; omega, rfl⟩
    · have e1 : d.countF = ({ d with calls := d.calls + 1, armed := d.armed - 1, down := false }, 0) := by unfold D.countF; rw [if_neg h0, if_neg h1]
      have e2 : x.countF = ({ x with calls := x.calls + 1, arm := x.arm - 1 }, 0) := by unfold X.countF; rw [if_neg (by omega), if_pos (by omega)]
      rw [e1] at hk ⊢
      rw [e2] at hx ⊢
      exact ⟨rfl, hk, hx, h.lo, h.now, h.old, by show d.armed - 1 = x.arm - 1; omega, by show d.calls + 1 = x.calls + 1; omega, hd.symm⟩
theorem X.put_is (x : X) (i : Nat) (s : ByteArray) (k : Nat) (hi : i < x.is.length) : (x.putF i s).is.getD k false = if i = k then true else x.is.getD k false := by
  show (x.is.set i true).getD k false = _
  rw [getD_setB]
  by_cases e : i = k
  · rw [if_pos ⟨e, hi⟩, if_pos e]
  · rw [if_neg (fun h => e h.1), if_neg e]
theorem Rel.put (h : Rel n d x) (i : Nat) (hi : i < n) (s : ByteArray) : Rel n (d.putF i s.data.toList) (x.putF i s) := by
  have hil : i < x.is.length := by rw [h.xok.is]; exact hi
  have hdl : i < d.loose.length := by rw [h.dok.loose]; exact hi
  refine ⟨h.dok.put i _ hi, h.xok.put i hi s, ?_, fun k hk => ?_, fun k hk hik => ?_, ?_, ?_, ?_⟩
  · show (d.keepF i).loose = x.is.set i true
    unfold D.keepF
    rw [← h.lo]
    cases hl : d.loose.getD i false
    · rfl
    · rw [set_same _ _ _ hl hdl]; rfl
  · show sec (setSec d.now i (fillF s.data.toList)) k = _
    rw [sec_set h.dok.now hi (fillF_length _) hk]
    unfold X.nowF
    rw [X.put_is _ _ _ _ hil]
    show _ = ((if (if i = k then true else x.is.getD k false) = true then (x.new.set i (fillB s)).getD k .empty else x.safe.getD k .empty) : ByteArray).data.toList
    rw [getD_setS _ _ _ _ (by rw [h.xok.new]; exact hi)]
    by_cases e : i = k
    · simp only [e, if_true]; rfl
    · simp only [e, if_false]
      exact h.now k hk
  · rw [X.put_is _ _ _ _ hil] at hik
    show sec (d.keepF i).old k = (x.safe.getD k .empty).data.toList
    unfold D.keepF
    cases hl : d.loose.getD i false
    · show sec (setSec d.old i (sec d.now i)) k = _
      rw [sec_set h.dok.old hi (sec_length h.dok.now hi) hk]
      by_cases e : i = k
      · subst e
        rw [if_pos rfl, h.now i hi, X.now_safe (by rw [← h.lo]; exact hl)]
      · rw [if_neg e] at hik ⊢
        exact h.old k hk hik
    · show sec d.old k = _
      by_cases e : i = k
      · subst e
        exact h.old i hi (by rw [← h.lo]; exact hl)
      · rw [if_neg e] at hik
        exact h.old k hk hik
  · show (d.keepF i).armed = x.arm
    unfold D.keepF; split <;> exact h.arm
  · show (d.keepF i).calls = x.calls
    unfold D.keepF; split <;> exact h.calls
  · show (d.keepF i).down = x.down
    unfold D.keepF; split <;> exact h.down
theorem Rel.at (h : Rel n d x) (i : Int) : d.atF n i = if x.down then 13 else if 0 ≤ i ∧ i < n then 0 else 3 := by unfold D.atF; rw [h.down]
theorem Rel.write (h : Rel n d x) (i : Int) (s : ByteArray) : (d.writeF n i s.data.toList).2 = (x.writeF n i s).2 ∧ Rel n (d.writeF n i s.data.toList).1 (x.writeF n i s).1 := by
  unfold D.writeF X.writeF
  rw [h.at]
  cases hd : x.down
  · simp only [Bool.false_eq_true, if_false]
    by_cases hi : 0 ≤ i ∧ i < n
    · simp only [if_pos hi, if_true]
      exact (h.put i.toNat (by omega) s).count hd
    · simp only [if_neg hi]
      exact ⟨rfl, h⟩
  · simp only [if_true]
    exact ⟨rfl, h⟩
theorem X.syncTo_is (x : X) (k : Nat) (hk : k ≤ x.is.length) : (x.syncTo k).is.length = x.is.length ∧ ∀ j, (x.syncTo k).is.getD j false = if j < k then false else x.is.getD j false := by
  induction k with
  | zero => exact ⟨rfl, fun j => by simp [X.syncTo]⟩
  | succ k ih =>
    obtain ⟨h1, h2⟩ := ih (by omega)
    refine ⟨by show (List.set _ _ _).length = _; rw [List.length_set]; exact h1, fun j => ?_⟩
    show ((x.syncTo k).is.set k false).getD j false = _
    rw [getD_setB, h2]
    by_cases e : k = j
    · subst e
      rw [if_pos ⟨rfl, by omega⟩, if_pos (by omega)]
    · rw [if_neg (fun h => e h.1)]
      by_cases hj : j < k
      · rw [if_pos hj, if_pos (by omega)]
      · rw [if_neg hj, if_neg (by omega)]
theorem X.syncTo_same (x : X) (k : Nat) : (x.syncTo k).new = x.new ∧ (x.syncTo k).arm = x.arm ∧ (x.syncTo k).calls = x.calls ∧ (x.syncTo k).down = x.down := by
  induction k with
  | zero => exact ⟨rfl, rfl, rfl, rfl⟩
  | succ k ih => exact ih
theorem X.syncTo_safe (x : X) (k : Nat) (hk : k ≤ x.is.length) (hs : x.safe.length = x.is.length) : (x.syncTo k).safe.length = x.safe.length ∧ ∀ j, (x.syncTo k).safe.getD j .empty = if j < k then x.nowF j else x.safe.getD j .empty := by
  induction k with
  | zero => exact ⟨rfl, fun j => by simp [X.syncTo]⟩
  | succ k ih =>
    obtain ⟨h1, h2⟩ := ih (by omega)
    refine ⟨by show (List.set _ _ _).length = _; rw [List.length_set]; exact h1, fun j => ?_⟩
    have en : (x.syncTo k).nowF k = x.nowF k := by
      unfold X.nowF
      rw [(X.syncTo_is x k (by omega)).2, if_neg (Nat.lt_irrefl k), (X.syncTo_same x k).1, h2, if_neg (Nat.lt_irrefl k)]
    show ((x.syncTo k).safe.set k ((x.syncTo k).nowF k)).getD j .empty = _
    rw [en, getD_setS _ _ _ _ (by omega), h2]
    by_cases e : k = j
    · subst e
      rw [if_pos rfl, if_pos (by omega)]
    · rw [if_neg e]
      by_cases hj : j < k
      · rw [if_pos hj, if_pos (by omega)]
      · rw [if_neg hj, if_neg (by omega)]
theorem X.Ok.syncTo {x : X} (h : x.Ok n) : ∀ k, k ≤ n → (x.syncTo k).Ok n
  | 0, _ => h
  | k + 1, hk => (X.Ok.syncTo h k (by omega)).syncOne k _ ((X.Ok.syncTo h k (by omega)).now k (by omega))
theorem list_false (l : List Bool) (n : Nat) (h : l.length = n) (hf : ∀ j, j < n → l.getD j false = false) : l = List.replicate n false := by
  apply List.ext_getElem
  · rw [h, List.length_replicate]
  · intro i h1 h2
    have := hf i (by omega)
    simp only [List.getD, List.getElem?_eq_getElem h1, Option.getD_some] at this
    rw [List.getElem_replicate]; exact this
theorem Rel.calm (h : Rel n d x) : Rel n { d with loose := List.replicate n false } (x.syncTo n) := by
  have hi := h.xok.is
  have hs := h.xok.safe
  obtain ⟨i1, i2⟩ := X.syncTo_is x n (by omega)
  obtain ⟨s1, s2⟩ := X.syncTo_safe x n (by omega) (by omega)
  obtain ⟨m1, m2, m3, m4⟩ := X.syncTo_same x n
  refine ⟨⟨h.dok.now, h.dok.old, by show (List.replicate n false).length = n; simp, h.dok.small, h.dok.armed, h.dok.calls⟩, h.xok.syncTo n (Nat.le_refl n), ?_, fun k hk => ?_, fun k hk hik => ?_, by rw [m2]; exact h.arm, by rw [m3]; exact h.calls, by rw [m4]; exact h.down⟩
  · exact (list_false _ n (by omega) (fun j hj => by rw [i2, if_pos hj])).symm
  · show sec d.now k = _
    rw [X.now_safe (by rw [i2, if_pos hk]), s2, if_pos hk]
    exact h.now k hk
  · rw [i2, if_pos hk] at hik; cases hik
theorem Rel.sync (h : Rel n d x) : d.syncF.2 = (x.syncF n).2 ∧ Rel n d.syncF.1 (x.syncF n).1 := by
  unfold D.syncF X.syncF
  rw [h.down, h.dok.loose]
  cases hd : x.down
  · simp only [Bool.false_eq_true, if_false]
    obtain ⟨e, hc⟩ := h.count hd
    rw [e]
    by_cases h0 : x.countF.2 = 0
    · rw [if_pos h0, if_pos h0]
      exact ⟨by first | rfl | trivial | simp, hc.calm⟩
    · rw [if_neg h0, if_neg h0]
      exact ⟨e, hc⟩
  · simp only [if_true]
    exact ⟨trivial, h⟩
theorem cutB_list (k : Nat) (a b : ByteArray) (_hk : k ≤ 64) (_ha : a.size = 64) (hb : b.size = 64) : (cutB k a b).data.toList = a.data.toList.take k ++ b.data.toList.drop k := by
  unfold cutB
  rw [ByteArray.data_append, Array.toList_append, ByteArray.data_extract, ByteArray.data_extract, Array.toList_extract, Array.toList_extract]
  simp only [List.extract_eq_take_drop, List.drop_zero, Nat.sub_zero]
  congr 1
  rw [List.take_of_length_le]
  have : b.data.toList.length = 64 := by rw [← hb]; simp
  simp [this]
theorem Rel.one (h : Rel n d x) (C : Cr) (j i : Nat) (hi : i < n) (hl : x.is.getD i false = true) : Rel n (d.crashOne C j i) (x.syncOne i (cutB (C.leftF j) (x.new.getD i .empty) (x.safe.getD i .empty))) := by
  have hk := C.left_le j
  have hn := h.xok.fitn i hl
  have hs := h.xok.safe64 i hi
  have hil : i < x.is.length := by rw [h.xok.is]; exact hi
  have e1 := sec_length h.dok.now hi
  have e2 := sec_length h.dok.old hi
  have ei : ∀ k, (x.syncOne i (cutB (C.leftF j) (x.new.getD i .empty) (x.safe.getD i .empty))).is.getD k false = if i = k then false else x.is.getD k false := by
    intro k
    show (x.is.set i false).getD k false = _
    rw [getD_setB]
    by_cases e : i = k
    · rw [if_pos ⟨e, hil⟩, if_pos e]
    · rw [if_neg (fun h => e h.1), if_neg e]
  have es : ∀ k, (x.syncOne i (cutB (C.leftF j) (x.new.getD i .empty) (x.safe.getD i .empty))).safe.getD k .empty = if i = k then cutB (C.leftF j) (x.new.getD i .empty) (x.safe.getD i .empty) else x.safe.getD k .empty := by
    intro k
    exact getD_setS _ _ _ _ (by rw [h.xok.safe]; exact hi)
  refine ⟨h.dok.one C j i hi, h.xok.syncOne i _ (cutB_size _ _ _ hk hn hs), ?_, fun k hk' => ?_, fun k hk' hik => ?_, h.arm, h.calls, h.down⟩
  · show d.loose.set i false = x.is.set i false
    rw [h.lo]
  · show sec (setSec d.now i _) k = _
    rw [sec_set h.dok.now hi (by simp [e1, e2]; omega) hk']
    by_cases e : i = k
    · subst e
      rw [if_pos rfl, X.now_safe (by rw [ei, if_pos rfl]), es, if_pos rfl, cutB_list _ _ _ hk hn hs, h.now i hi, h.old i hi hl, X.now_new hl]
    · rw [if_neg e]
      have : (x.syncOne i (cutB (C.leftF j) (x.new.getD i .empty) (x.safe.getD i .empty))).nowF k = x.nowF k := by
        unfold X.nowF
        rw [ei, if_neg e, es, if_neg e]
        rfl
      rw [this]
      exact h.now k hk'
  · rw [ei] at hik
    by_cases e : i = k
    · rw [if_pos e] at hik; cases hik
    · rw [if_neg e] at hik
      rw [es, if_neg e]
      exact h.old k hk' hik
theorem Rel.crashTo (h : Rel n d x) (C : Cr) : ∀ i, i ≤ n → (D.crashTo C d i).2 = (x.crashTo C i).2 ∧ Rel n (D.crashTo C d i).1 (x.crashTo C i).1
  | 0, _ => ⟨rfl, h⟩
  | i + 1, hi => by
    obtain ⟨e, ih⟩ := Rel.crashTo h C i (by omega)
    simp only [D.crashTo, X.crashTo]
    rw [ih.lo]
    cases hl : (x.crashTo C i).1.is.getD i false
    · simp only [Bool.false_eq_true, if_false]
      exact ⟨e, ih⟩
    · simp only [if_true]
      rw [e]
      exact ⟨rfl, ih.one C _ i (by omega) hl⟩
theorem Rel.crash (h : Rel n d x) (C : Cr) : Rel n (d.crashF C n) (x.crashF C n) := by
  have h1 := (h.crashTo C n (Nat.le_refl n)).2
  have hok := h.dok.crash C
  exact ⟨hok, ⟨h1.xok.safe, h1.xok.new, h1.xok.is, h1.xok.small, h1.xok.fits, h1.xok.fitn⟩, h1.lo, h1.now, h1.old, rfl, h1.calls, rfl⟩
theorem made_ok (n : Nat) (hn : n ≤ 4096) : (X.made n).Ok n := by
  refine ⟨by simp [X.made], by simp [X.made], by simp [X.made], hn, fun s hs => ?_, fun i hi => ?_⟩
  · have hs : s ∈ List.replicate n zeroB := hs
    rw [(List.mem_replicate.1 hs).2]
    exact fillB_size _
  · have hi : (List.replicate n false).getD i false = true := hi
    simp only [List.getD, List.getElem?_replicate] at hi
    split at hi <;> simp at hi
theorem replicate_getD (n i : Nat) (s t : ByteArray) (h : i < n) : (List.replicate n s).getD i t = s := by
  simp [List.getD, h]
theorem Rel.made (n : Nat) (hn : n ≤ 4096) : Rel n (D.zero n) (X.made n) := by
  refine ⟨zero_ok n hn, made_ok n hn, rfl, fun i hi => ?_, fun i hi hl => ?_, rfl, rfl, rfl⟩
  · rw [X.now_safe (by simp only [X.made, List.getD, List.getElem?_replicate]; split <;> rfl)]
    show sec (List.replicate (64 * n) 0) i = ((List.replicate n zeroB).getD i .empty).data.toList
    rw [replicate_getD _ _ _ _ hi]
    show sec (List.replicate (64 * n) 0) i = fillF []
    unfold sec fillF
    rw [List.drop_replicate, List.take_replicate]
    have e : min 64 (64 * n - 64 * i) = 64 := by omega
    rw [e]; rfl
  · exfalso
    have hl : (List.replicate n false).getD i false = true := hl
    simp only [List.getD, List.getElem?_replicate] at hl
    split at hl <;> simp at hl
/-- one that was armed -/
theorem Rel.armed (h : Rel n d x) (k : Int) (hk : 0 ≤ k) : Rel n { d with armed := k } { x with arm := k } :=
  ⟨⟨h.dok.now, h.dok.old, h.dok.loose, h.dok.small, hk, h.dok.calls⟩, ⟨h.xok.safe, h.xok.new, h.xok.is, h.xok.small, h.xok.fits, h.xok.fitn⟩, h.lo, h.now, h.old, rfl, h.calls, h.down⟩
end
end Go.Proofs.Ytmofbgcanehdoaa.Dk

/- both disks side by side: do. -/
namespace Go.Proofs.Ytmofbgcanehdoaa.Dk
open Go.RowKit

structure Both (w : World) (L : Loc) (M : XL) (n : Nat) (d : D) (x : X) : Prop where
  dv : DiskAt w L n d
  rf : XAt w M n x
  r : Rel n d x
  ap : L.gL ≠ M.gI
def bfp (L : Loc) (M : XL) : List Nat := L.fp ++ M.fp
section
variable {w w' w'' : World} {L : Loc} {M : XL} {n : Nat} {d d' : D} {x x' : X} {S : List Nat}
theorem Both.apart (h : Both w L M n d x) : ∀ y ∈ L.fp, y ∉ M.fp := by
  have p1 : L.b ≠ M.b := h.dv.hb.ne_ h.rf.hb (by decide)
  have p2 : L.b ≠ M.gS := h.dv.hb.ne_ h.rf.hS (by decide)
  have p3 : L.b ≠ M.gW := h.dv.hb.ne_ h.rf.hW (by decide)
  have p4 : L.b ≠ M.gI := h.dv.hb.ne_ h.rf.hI (by decide)
  have q1 : L.gN ≠ M.b := h.dv.hN.ne_ h.rf.hb (by decide)
  have q2 : L.gN ≠ M.gS := h.dv.hN.ne_ h.rf.hS (by decide)
  have q3 : L.gN ≠ M.gW := h.dv.hN.ne_ h.rf.hW (by decide)
  have q4 : L.gN ≠ M.gI := h.dv.hN.ne_ h.rf.hI (by decide)
  have r1 : L.gO ≠ M.b := h.dv.hO.ne_ h.rf.hb (by decide)
  have r2 : L.gO ≠ M.gS := h.dv.hO.ne_ h.rf.hS (by decide)
  have r3 : L.gO ≠ M.gW := h.dv.hO.ne_ h.rf.hW (by decide)
  have r4 : L.gO ≠ M.gI := h.dv.hO.ne_ h.rf.hI (by decide)
  have s1 : L.gL ≠ M.b := h.dv.hL.ne_ h.rf.hb (by decide)
  have s2 : L.gL ≠ M.gS := h.dv.hL.ne_ h.rf.hS (by decide)
  have s3 : L.gL ≠ M.gW := h.dv.hL.ne_ h.rf.hW (by decide)
  have s4 := h.ap
  intro y hy hz
  simp only [Loc.fp, XL.fp, List.mem_cons, List.not_mem_nil, or_false] at hy hz
  rcases hy with rfl | rfl | rfl | rfl <;> rcases hz with hz | hz | hz | hz <;> first | exact p1 hz | exact p2 hz | exact p3 hz | exact p4 hz | exact q1 hz | exact q2 hz | exact q3 hz | exact q4 hz | exact r1 hz | exact r2 hz | exact r3 hz | exact r4 hz | exact s1 hz | exact s2 hz | exact s3 hz | exact s4 hz
theorem Both.only (h : Both w L M n d x) (ho : Only S w w') (hd : ∀ y ∈ bfp L M, y ∉ S) : Both w' L M n d x :=
  ⟨h.dv.only ho (fun y hy => hd y (List.mem_append_left _ hy)), h.rf.only ho (fun y hy => hd y (List.mem_append_right _ hy)), h.r, h.ap⟩
theorem Both.below (h : Both w L M n d x) (hb : Below w.heap.size w w') : Both w' L M n d x := h.only (S := []) (.of_below hb) (by simp)
theorem Both.drew (h : Both w L M n d x) : Both w.drew L M n d x := ⟨h.dv.drew, h.rf.drew, h.r, h.ap⟩
theorem Both.drewN (h : Both w L M n d x) (k : Nat) : Both (w.drewN k) L M n d x := ⟨h.dv.drewN k, h.rf.drewN k, h.r, h.ap⟩
theorem Both.lt (h : Both w L M n d x) : ∀ y ∈ bfp L M, y < w.heap.size := by
  intro y hy
  rcases List.mem_append.1 hy with h1 | h1
  · exact h.dv.lt y h1
  · exact h.rf.lt y h1
/-- behind a call of the disk: the document's -/
theorem Both.ref (h : Both w L M n d x) (ho : Only L.fp w w') : XAt w' M n x := h.rf.only ho (fun y hy hz => h.apart y hz hy)
/-- behind a call of the document's: the disk -/
theorem Both.dev (h : Both w L M n d x) (ho : Only M.fp w w') : DiskAt w' L n d := h.dv.only ho h.apart
theorem bfpL (L : Loc) (M : XL) {w w' : World} (h : Only L.fp w w') : Only (bfp L M) w w' := h.mono fun _ hy _ => List.mem_append_left _ hy
theorem bfpM (L : Loc) (M : XL) {w w' : World} (h : Only M.fp w w') : Only (bfp L M) w w' := h.mono fun _ hy _ => List.mem_append_right _ hy
end
/-- behind an act -/
def Step (w w' : World) (L : Loc) (M : XL) (n : Nat) (d : D) : Prop := ∃ d' x', Both w' L M n d' x' ∧ d'.calls ≤ d.calls + 1 ∧ d'.armed ≤ 9223372036854775807 ∧ Only (bfp L M) w w'
theorem Step.from_ {w w' w'' : World} {L : Loc} {M : XL} {n : Nat} {d : D} (hb : Below w.heap.size w w') (h : Step w' w'' L M n d) : Step w w'' L M n d := by
  obtain ⟨d', x', h1, h2, h3, h4⟩ := h
  exact ⟨d', x', h1, h2, h3, (Only.of_below hb).trans h4⟩
theorem Both.step {w w1 w2 : World} {L : Loc} {M : XL} {n : Nat} {d d' : D} {x x' : X} (h : Both w L M n d x) (o1 : Only L.fp w w1) (h1 : DiskAt w1 L n d') (o2 : Only M.fp w1 w2) (h2 : XAt w2 M n x') (r : Rel n d' x') (hc : d'.calls ≤ d.calls + 1) (ha : d'.armed ≤ 9223372036854775807) : Step w w2 L M n d :=
  ⟨d', x', ⟨h1.only o2 h.apart, h2, r, h.ap⟩, hc, ha, (bfpL L M o1).trans (bfpM L M o2)⟩
theorem Both.step' {w w1 w2 : World} {L : Loc} {M : XL} {n : Nat} {d d' : D} {x x' : X} (h : Both w L M n d x) (o1 : Only M.fp w w1) (h1 : XAt w1 M n x') (o2 : Only L.fp w1 w2) (h2 : DiskAt w2 L n d') (r : Rel n d' x') (hc : d'.calls ≤ d.calls + 1) (ha : d'.armed ≤ 9223372036854775807) : Step w w2 L M n d :=
  ⟨d', x', ⟨h2, h1.only o2 (fun y hy hz => h.apart y hz hy), r, h.ap⟩, hc, ha, (bfpM L M o1).trans (bfpL L M o2)⟩
theorem count_bd (d : D) (h : d.armed ≤ 9223372036854775807) : d.countF.1.calls = d.calls + 1 ∧ d.countF.1.armed ≤ 9223372036854775807 := by
  unfold D.countF
  split
  · exact ⟨rfl, h⟩
  · split
    · exact ⟨rfl, by show (0 : Int) ≤ _; omega⟩
    · exact ⟨rfl, by show d.armed - 1 ≤ _; omega⟩
theorem keep_same (d : D) (i : Nat) : (d.keepF i).calls = d.calls ∧ (d.keepF i).armed = d.armed := by unfold D.keepF; split <;> exact ⟨rfl, rfl⟩
theorem write_bd (d : D) (n : Nat) (i : Int) (s : List UInt8) (h : d.armed ≤ 9223372036854775807) : (d.writeF n i s).1.calls ≤ d.calls + 1 ∧ (d.writeF n i s).1.armed ≤ 9223372036854775807 := by
  unfold D.writeF
  split
  · obtain ⟨k1, k2⟩ := keep_same d i.toNat
    have := count_bd (d.putF i.toNat s) (by show (d.keepF i.toNat).armed ≤ _; rw [k2]; exact h)
    have e : (d.putF i.toNat s).calls = d.calls := k1
    exact ⟨by omega, this.2⟩
  · exact ⟨by show d.calls ≤ _; omega, h⟩
theorem sync_bd (d : D) (h : d.armed ≤ 9223372036854775807) : d.syncF.1.calls ≤ d.calls + 1 ∧ d.syncF.1.armed ≤ 9223372036854775807 := by
  have := count_bd d h
  unfold D.syncF
  split
  · exact ⟨by show d.calls ≤ _; omega, h⟩
  · split
    · exact ⟨by show d.countF.1.calls ≤ _; omega, this.2⟩
    · exact ⟨by omega, this.2⟩
theorem crash_same (C : Cr) (d : D) : ∀ i, (D.crashTo C d i).1.calls = d.calls
  | 0 => rfl
  | i + 1 => by
    have := crash_same C d i
    simp only [D.crashTo]
    split
    · exact this
    · exact this
def actV (k i : Int) (s : ByteArray) (C : Cr) : Value := .agg #[.int .i64 k, .int .i64 i, .string s, .slice C.A C.m C.c, .int .i64 C.torn, .int .i64 C.bytes]
def actC (k i : Int) (s : ByteArray) (C : Cr) : Array Value := #[.int .i64 k, .int .i64 i, .string s, .slice C.A C.m C.c, .int .i64 C.torn, .int .i64 C.bytes]

theorem armF_down {d : D} {k : Int} (h : d.down = true) : d.armF k = (d, 13) := by unfold D.armF; rw [if_pos h]
theorem armF_no {d : D} {k : Int} (h : d.down = false) (hk : k < 1) : d.armF k = (d, 2) := by unfold D.armF; rw [if_neg (by simp [h]), if_pos hk]
theorem armF_yes {d : D} {k : Int} (h : d.down = false) (hk : ¬ k < 1) : d.armF k = ({ d with armed := k }, 0) := by unfold D.armF; rw [if_neg (by simp [h]), if_neg hk]
end Go.Proofs.Ytmofbgcanehdoaa.Dk

/- both disks side by side: do, a write. -/
namespace Go.Proofs.Ytmofbgcanehdoaa.Dk
open Go.RowKit
end Go.Proofs.Ytmofbgcanehdoaa.Dk

/- both disks side by side: calls that came in, made. -/
namespace Go.Proofs.Ytmofbgcanehdoaa.Dk
open Go.RowKit Go.Deep

instance : Inhabited Ac := ⟨⟨0, 0, .empty, ⟨none, 0, 0, fun _ => false, 0, 0⟩⟩⟩
/-- calls that came in: their cells -/
structure ActAt (w : World) (ad : Addr) (a : Ac) : Prop where
  c0 : w.cell? ad = some (.int .i64 a.kind)
  c1 : w.cell? ⟨ad.block, ad.off + 1, none⟩ = some (.int .i64 a.i)
  c2 : w.cell? ⟨ad.block, ad.off + 2, none⟩ = some (.string a.s)
  c3 : w.cell? ⟨ad.block, ad.off + 3, none⟩ = some (.slice a.C.A a.C.m a.C.c)
  c4 : w.cell? ⟨ad.block, ad.off + 4, none⟩ = some (.int .i64 a.C.torn)
  c5 : w.cell? ⟨ad.block, ad.off + 5, none⟩ = some (.int .i64 a.C.bytes)
  C : a.C.At w
  hm : a.C.m ≤ 9223372036854775807
  hs : a.s.size ≤ 9223372036854775807
  hi : a.i ≤ 9223372036854775807
def Acts (w : World) (A : Option Addr) (n : Nat) (F : Nat → Ac) : Prop := ∀ k, k < n → ∃ ad, A = some ad ∧ ActAt w (ad.add (k * 6)) (F k)
theorem ActAt.below {w w' : World} {ad : Addr} {a : Ac} (h : ActAt w ad a) (hb : Below w.heap.size w w') : ActAt w' ad a := by
  have hlt := cell_lt' h.c0
  exact ⟨(hb.cell hlt).trans h.c0, (hb.cell (p := ⟨ad.block, ad.off + 1, none⟩) hlt).trans h.c1, (hb.cell (p := ⟨ad.block, ad.off + 2, none⟩) hlt).trans h.c2, (hb.cell (p := ⟨ad.block, ad.off + 3, none⟩) hlt).trans h.c3, (hb.cell (p := ⟨ad.block, ad.off + 4, none⟩) hlt).trans h.c4, (hb.cell (p := ⟨ad.block, ad.off + 5, none⟩) hlt).trans h.c5, h.C.below hb, h.hm, h.hs, h.hi⟩
theorem Acts.below {w w' : World} {A : Option Addr} {n : Nat} {F : Nat → Ac} (h : Acts w A n F) (hb : Below w.heap.size w w') : Acts w' A n F := by
  intro k hk
  obtain ⟨ad, e, h1⟩ := h k hk
  exact ⟨ad, e, h1.below hb⟩
theorem add_at (a : Addr) (i j : Nat) (hj : 0 < j) : (a.add i).add j = ⟨(a.add i).block, (a.add i).off + j, none⟩ := by
  rw [Addr.add, if_neg (by omega)]
theorem add_zero' (a : Addr) : a.add 0 = a := by simp [Addr.add]
theorem Cr.At.lt {C : Cr} {w : World} (hC : C.At w) : ∀ ad, C.A = some ad → 0 < C.m → ad.block < w.heap.size := by
  intro ad e hp
  obtain ⟨ad', e', hc⟩ := hC 0 hp
  rw [e] at e'
  injection e' with e'
  subst e'
  exact cell_lt hc
theorem Mk.at {w0 : Nat} {w : World} {b n : Nat} {vS vW vI : Value} (h : Mk w0 w b n n n vS vW vI) (hn : 1 ≤ n) (hn2 : n ≤ 4096) : ∃ M, M.b = b ∧ XAt w M n (X.made n) ∧ ∀ y ∈ M.fp, w0 ≤ y := by
  obtain ⟨gS, cS, rS, rfl, BS, hcS, _⟩ := h.hS.form (by omega) (by omega)
  obtain ⟨gW, cW, rW, rfl, BW, hcW, _⟩ := h.hW.form (by omega) (by omega)
  obtain ⟨gI, cI, rI, rfl, BI, hcI, _⟩ := h.hI.form (by omega) (by omega)
  have nS := h.nS gS (by simp [ownB])
  have nW := h.nW gW (by simp [ownB])
  have nI := h.nI gI (by simp [ownB])
  have sw := h.sw gS (by simp [ownB])
  simp only [ownB, List.mem_singleton] at sw
  refine ⟨⟨b, gS, gW, gI, cS, cW, cI, rS, rW, rI⟩, rfl, ⟨h.hb, BS, BW, BI, sw, made_ok n hn2⟩, ?_⟩
  intro y hy
  have nb := h.nb
  simp only [XL.fp, List.mem_cons, List.not_mem_nil, or_false] at hy
  omega

/-- what made hands back -/
structure Made (w w' : World) (L : Loc) (M : XL) (n : Nat) (d : D) (x : X) : Prop where
  both : Both w' L M n d x
  below : Below w.heap.size w w'
  hc : d.calls ≤ 60
  hr : d.armed ≤ 9223372036854775807
  fr : ∀ y ∈ bfp L M, w.heap.size ≤ y

end Go.Proofs.Ytmofbgcanehdoaa.Dk
