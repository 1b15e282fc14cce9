/- the document's disk (reference 10) by its contracts. -/
import Derived.Test.YtclompapmbhijaaDiskOf
namespace Go.Proofs.Ytclompapmbhijaa.Dk
open Go.RowKit

structure X where
  safe : List ByteArray
  new : List ByteArray
  is : List Bool
  arm : Int
  calls : Int
  down : Bool
def X.nowF (x : X) (i : Nat) : ByteArray := if x.is.getD i false then x.new.getD i .empty else x.safe.getD i .empty
def X.countF (x : X) : X × Int :=
  if x.arm = 1 then ({ x with calls := x.calls + 1, arm := 0, down := true }, 13)
  else if x.arm > 1 then ({ x with calls := x.calls + 1, arm := x.arm - 1 }, 0) else ({ x with calls := x.calls + 1 }, 0)
structure X.Ok (x : X) (n : Nat) : Prop where
  safe : x.safe.length = n
  new : x.new.length = n
  is : x.is.length = n
  small : n ≤ 4096
  fits : ∀ s ∈ x.safe, s.size = 64
  fitn : ∀ i, x.is.getD i false = true → (x.new.getD i .empty).size = 64
/-- where it lies -/
structure XL where
  b : Nat
  gS : Nat
  gW : Nat
  gI : Nat
  cS : Nat
  cW : Nat
  cI : Nat
  rS : List Value
  rW : List Value
  rI : List Value
def XL.fp (M : XL) : List Nat := [M.b, M.gS, M.gW, M.gI]
def sv (l : List ByteArray) : List Value := l.map .string
theorem sv_get (l : List ByteArray) (r : List Value) (i : Nat) (hi : i < l.length) : (sv l ++ r)[i]? = some (.string (l.getD i .empty)) := by
  rw [List.getElem?_append_left (by simpa [sv] using hi)]
  simp [sv, List.getD, List.getElem?_eq_getElem hi]
theorem sv_set (l : List ByteArray) (r : List Value) (i : Nat) (s : ByteArray) (hi : i < l.length) : (sv l ++ r).set i (.string s) = sv (l.set i s) ++ r := by
  rw [List.set_append_left _ _ (by simpa [sv] using hi)]
  simp [sv]
theorem bl_get (l : List Bool) (r : List Value) (i : Nat) (hi : i < l.length) : (bools l ++ r)[i]? = some (.bool (l.getD i false)) := by
  rw [List.getElem?_append_left (by simpa [bools] using hi)]
  exact bools_get _ _ hi
theorem bl_set (l : List Bool) (r : List Value) (i : Nat) (b : Bool) (hi : i < l.length) : (bools l ++ r).set i (.bool b) = bools (l.set i b) ++ r := by
  rw [List.set_append_left _ _ (by simpa [bools] using hi), bools_set]
def xfields (M : XL) (n : Nat) (x : X) : Array Value :=
  #[.slice (some ⟨M.gS, 0, none⟩) n M.cS, .slice (some ⟨M.gW, 0, none⟩) n M.cW, .slice (some ⟨M.gI, 0, none⟩) n M.cI, .int .i64 x.arm, .int .i64 x.calls, .bool x.down]
structure XAt (w : World) (M : XL) (n : Nat) (x : X) : Prop where
  hb : Blk w M.b 33 (xfields M n x)
  hS : Blk w M.gS 9 (sv x.safe ++ M.rS).toArray
  hW : Blk w M.gW 9 (sv x.new ++ M.rW).toArray
  hI : Blk w M.gI 4 (bools x.is ++ M.rI).toArray
  ne : M.gS ≠ M.gW
  ok : x.Ok n
section
variable {w w' : World} {M : XL} {n : Nat} {x : X} {S : List Nat}
theorem XAt.only (h : XAt w M n x) (ho : Only S w w') (hd : ∀ y ∈ M.fp, y ∉ S) : XAt w' M n x :=
  ⟨h.hb.only ho (hd _ (by simp [XL.fp])), h.hS.only ho (hd _ (by simp [XL.fp])), h.hW.only ho (hd _ (by simp [XL.fp])), h.hI.only ho (hd _ (by simp [XL.fp])), h.ne, h.ok⟩
theorem XAt.below (h : XAt w M n x) (hb : Below w.heap.size w w') : XAt w' M n x := h.only (S := []) (.of_below hb) (by simp)
theorem XAt.drew (h : XAt w M n x) : XAt w.drew M n x := ⟨h.hb, h.hS, h.hW, h.hI, h.ne, h.ok⟩
theorem XAt.drewN (h : XAt w M n x) (k : Nat) : XAt (w.drewN k) M n x := ⟨h.hb, h.hS, h.hW, h.hI, h.ne, h.ok⟩
theorem XAt.lt (h : XAt w M n x) : ∀ y ∈ M.fp, y < w.heap.size := by
  intro y hx
  simp only [XL.fp, List.mem_cons, List.not_mem_nil, or_false] at hx
  rcases hx with rfl | rfl | rfl | rfl
  · exact h.hb.lt
  · exact h.hS.lt
  · exact h.hW.lt
  · exact h.hI.lt
theorem XAt.bS (h : XAt w M n x) : M.b ≠ M.gS := h.hb.ne_ h.hS (by decide)
theorem XAt.bW (h : XAt w M n x) : M.b ≠ M.gW := h.hb.ne_ h.hW (by decide)
theorem XAt.bI (h : XAt w M n x) : M.b ≠ M.gI := h.hb.ne_ h.hI (by decide)
theorem XAt.IS (h : XAt w M n x) : M.gI ≠ M.gS := h.hI.ne_ h.hS (by decide)
theorem XAt.IW (h : XAt w M n x) : M.gI ≠ M.gW := h.hI.ne_ h.hW (by decide)
theorem XAt.f0 (h : XAt w M n x) : w.cell? ⟨M.b, 0, none⟩ = some (.slice (some ⟨M.gS, 0, none⟩) n M.cS) := h.hb.cell_some rfl
theorem XAt.f1 (h : XAt w M n x) : w.cell? ⟨M.b, 1, none⟩ = some (.slice (some ⟨M.gW, 0, none⟩) n M.cW) := h.hb.cell_some rfl
theorem XAt.f2 (h : XAt w M n x) : w.cell? ⟨M.b, 2, none⟩ = some (.slice (some ⟨M.gI, 0, none⟩) n M.cI) := h.hb.cell_some rfl
theorem XAt.f3 (h : XAt w M n x) : w.cell? ⟨M.b, 3, none⟩ = some (.int .i64 x.arm) := h.hb.cell_some rfl
theorem XAt.f4 (h : XAt w M n x) : w.cell? ⟨M.b, 4, none⟩ = some (.int .i64 x.calls) := h.hb.cell_some rfl
theorem XAt.f5 (h : XAt w M n x) : w.cell? ⟨M.b, 5, none⟩ = some (.bool x.down) := h.hb.cell_some rfl
theorem XAt.fz (h : XAt w M n x) (i : Nat) (hi : i < 6) : w.frozen? ⟨M.b, i, none⟩ = false := h.hb.frozen i (by simpa [xfields] using hi)
theorem XAt.cS (h : XAt w M n x) (i : Nat) (hi : i < n) : w.cell? ⟨M.gS, i, none⟩ = some (.string (x.safe.getD i .empty)) := h.hS.cell_some (by rw [List.getElem?_toArray, sv_get _ _ _ (by rw [h.ok.safe]; exact hi)])
theorem XAt.cW (h : XAt w M n x) (i : Nat) (hi : i < n) : w.cell? ⟨M.gW, i, none⟩ = some (.string (x.new.getD i .empty)) := h.hW.cell_some (by rw [List.getElem?_toArray, sv_get _ _ _ (by rw [h.ok.new]; exact hi)])
theorem XAt.cI (h : XAt w M n x) (i : Nat) (hi : i < n) : w.cell? ⟨M.gI, i, none⟩ = some (.bool (x.is.getD i false)) := h.hI.cell_some (by rw [List.getElem?_toArray, bl_get _ _ _ (by rw [h.ok.is]; exact hi)])
theorem XAt.zS (h : XAt w M n x) (i : Nat) (hi : i < n) : w.frozen? ⟨M.gS, i, none⟩ = false := h.hS.frozen i (by simp [sv]; have := h.ok.safe; omega)
theorem XAt.zW (h : XAt w M n x) (i : Nat) (hi : i < n) : w.frozen? ⟨M.gW, i, none⟩ = false := h.hW.frozen i (by simp [sv]; have := h.ok.new; omega)
theorem XAt.zI (h : XAt w M n x) (i : Nat) (hi : i < n) : w.frozen? ⟨M.gI, i, none⟩ = false := h.hI.frozen i (by simp [bools]; have := h.ok.is; omega)
/-- new fields -/
theorem XAt.head (h : XAt w M n x) {x' : X} (B : Blk w' M.b 33 (xfields M n x')) (ho : Only [M.b] w w') (e1 : x'.safe = x.safe) (e2 : x'.new = x.new) (e3 : x'.is = x.is) : XAt w' M n x' := by
  refine ⟨B, ?_, ?_, ?_, h.ne, ⟨by rw [e1]; exact h.ok.safe, by rw [e2]; exact h.ok.new, by rw [e3]; exact h.ok.is, h.ok.small, by rw [e1]; exact h.ok.fits, by rw [e2, e3]; exact h.ok.fitn⟩⟩
  · rw [e1]; exact h.hS.only ho (by simp; exact fun e => h.bS e.symm)
  · rw [e2]; exact h.hW.only ho (by simp; exact fun e => h.bW e.symm)
  · rw [e3]; exact h.hI.only ho (by simp; exact fun e => h.bI e.symm)
end
def xp (b : Nat) : Value := .pointer (some ⟨b, 0, none⟩)

theorem xnow_any {w : World} {M : XL} {n : Nat} {x : X} (h : XAt w M n x) (i : Nat) (hi : i < n) :
    Calls Try.prog 17 #[xp M.b, .int .i64 i] w fun e w' => e = .returned (.string (x.nowF i)) ∧ w = w' := by
  have f0 := h.f0
  have f1 := h.f1
  have f2 := h.f2
  have c0 := h.cS i hi
  have c1 := h.cW i hi
  have c2 := h.cI i hi
  have hn := h.ok.small
  clear h
  unfold xp X.nowF
  cases hl : x.is.getD i false
  all_goals
    rw [hl] at c2
    go_enter Try.func17, Try.ntmps17
    go_wp2
    go_ret
    exact ⟨rfl, rfl⟩
theorem xcount_any {w : World} {M : XL} {n : Nat} {x : X} (h : XAt w M n x) (hc0 : 0 ≤ x.calls) (hc : x.calls ≤ 1000000000) (ha : 0 ≤ x.arm) (hr : x.arm ≤ 9223372036854775807) :
    Calls Try.prog 32 #[xp M.b] w fun e w' => e = .returned (.int .i64 x.countF.2) ∧ XAt w' M n x.countF.1 ∧ Only [M.b] w w' := by
  have f3 := h.f3
  have f4 := h.f4
  have f5 := h.f5
  have z3 := h.fz 3 (by omega)
  have z4 := h.fz 4 (by omega)
  have z5 := h.fz 5 (by omega)
  have H := Lib.hid h
  clear h
  unfold xp X.countF
  have h' : x.arm = 1 ∨ (¬ x.arm = 1 ∧ 1 < x.arm) ∨ (¬ x.arm = 1 ∧ ¬ 1 < x.arm) := by omega
  rcases h' with h1 | ⟨h1, h2⟩ | ⟨h1, h2⟩
  · rw [if_pos h1]
    rw [h1] at f3
    clear h1 ha hr
    go_enter Try.func32, Try.ntmps32
    go_wp2
    go_ret
    exact ⟨rfl, H.out.head (((H.out.hb.set_ 4 (.int .i64 (x.calls + 1))).set_ 5 (.bool true)).set_ 3 (.int .i64 0)) ((((Only.refl _ _).setCell (by simp) _).setCell (by simp) _).setCell (by simp) _) rfl rfl rfl, (((Only.refl _ _).setCell (by simp) _).setCell (by simp) _).setCell (by simp) _⟩
  · rw [if_neg h1, if_pos h2]
    have hb : (x.arm == 1) = false := by simpa using h1
    go_enter Try.func32, Try.ntmps32
    go_wp2
    go_ret
    exact ⟨rfl, H.out.head ((H.out.hb.set_ 4 (.int .i64 (x.calls + 1))).set_ 3 (.int .i64 (x.arm - 1))) (((Only.refl _ _).setCell (by simp) _).setCell (by simp) _) rfl rfl rfl, ((Only.refl _ _).setCell (by simp) _).setCell (by simp) _⟩
  · rw [if_neg h1, if_neg h2]
    have hb : (x.arm == 1) = false := by simpa using h1
    go_enter Try.func32, Try.ntmps32
    go_wp2
    go_ret
    exact ⟨rfl, H.out.head (H.out.hb.set_ 4 (.int .i64 (x.calls + 1))) ((Only.refl _ _).setCell (by simp) _) rfl rfl rfl, (Only.refl _ _).setCell (by simp) _⟩
def X.readF (x : X) (n : Nat) (i : Int) : ByteArray × Int := if x.down then (.empty, 13) else if 0 ≤ i ∧ i < n then (x.nowF i.toNat, 0) else (.empty, 3)
theorem xread_any {w : World} {M : XL} {n : Nat} {x : X} (h : XAt w M n x) (i : Int) :
    Calls Try.prog 23 #[xp M.b, .int .i64 i] w fun e w' => e = .returned (.tuple #[.string (x.readF n i).1, .int .i64 (x.readF n i).2]) ∧ w = w' := by
  have f0 := h.f0
  have f5 := h.f5
  have hn := h.ok.small
  unfold X.readF
  cases hd : x.down
  · rw [if_neg (by simp)]
    rw [hd] at f5
    by_cases hi : 0 ≤ i ∧ i < n
    · rw [if_pos hi]
      obtain ⟨k, rfl⟩ := Int.eq_ofNat_of_zero_le hi.1
      have hk : k < n := by omega
      have K := Lib.hid (xnow_any h k hk)
      clear h hi
      unfold xp at *
      simp only [Int.toNat_natCast]
      generalize x.nowF k = s at *
      go_enter Try.func23, Try.ntmps23
      go_wp2_with fail
      refine K.out.mono ?_
      rintro e w1 ⟨rfl, rfl⟩
      go_wp2_with fail
      go_ret2
      exact ⟨rfl, rfl⟩
    · rw [if_neg hi]
      clear h
      unfold xp
      have hi' : i < 0 ∨ (¬ i < 0 ∧ (n : Int) ≤ i) := by omega
      clear hi
      rcases hi' with h1 | ⟨h1, h2⟩
      all_goals
        go_enter Try.func23, Try.ntmps23
        go_wp2_with fail
        go_ret2
        exact ⟨rfl, rfl⟩
  · rw [if_pos rfl]
    rw [hd] at f5
    clear h
    unfold xp
    go_enter Try.func23, Try.ntmps23
    go_wp2_with fail
    go_ret2
    exact ⟨rfl, rfl⟩
theorem xloose_any {w : World} {M : XL} {n : Nat} {x : X} (h : XAt w M n x) :
    Calls Try.prog 25 #[xp M.b] w fun e w' => e = .returned (.int .i64 (x.is.count true : Nat)) ∧ w = w' := by
  have f2 := h.f2
  have hn := h.ok.small
  have HL := Lib.hid h.ok.is
  have HC := Lib.hid h.cI
  clear h
  unfold xp
  go_enter Try.func25, Try.ntmps25
  go_wp2
  go_loop [3, 4] (fun c i => ∃ k : Nat, k ≤ n ∧ i = .int .i64 k ∧ c = .int .i64 (looseTo x.is k : Nat)) (fun _ i => n - (intOf i).toNat)
  case atStart => exact ⟨0, by omega, rfl, rfl⟩
  case round =>
    obtain ⟨k, hk, rfl, rfl⟩ := hrel
    have hle := looseTo_le x.is k
    by_cases hkn : k < n
    · have ck := HC.out k hkn
      have HS := Lib.hid (looseTo_succ x.is k (by rw [HL.out]; exact hkn))
      cases hb : x.is.getD k false
      · rw [hb] at ck HS
        clear hb
        go_wp2
        go_round
        case rel => exact ⟨k + 1, by omega, by go_num, by rw [HS.out]; simp⟩
        case measure => simp [intOf]; omega
      · rw [hb] at ck HS
        clear hb
        go_wp2
        go_round
        case rel => exact ⟨k + 1, by omega, by go_num, by rw [HS.out]; simp⟩
        case measure => simp [intOf]; omega
    · have hkl : k = n := by omega
      have HX := Lib.hid (show looseTo x.is k = x.is.count true by unfold looseTo; rw [List.take_of_length_le (by rw [HL.out]; omega)])
      clear hkl
      go_wp2
      go_ret
      exact ⟨by rw [← HX.out]; rfl, rfl⟩
end Go.Proofs.Ytclompapmbhijaa.Dk
