/- the document's disk: Made. -/
import Derived.Test.YtclompapmbhijaaDiskX3
import Derived.Deep.DrawnRows
import Derived.Deep.Cut
import Derived.Deep.RegionHeld
namespace Go.Proofs.Ytclompapmbhijaa
open Go.RowKit
theorem Slc.blkOf {w : World} {e : TypeId} {size n : Nat} {v : Value} {l : List Value} (h : Slc w e size v n l) : ∀ g ∈ ownB v, ∃ cs, Blk w g e cs := by
  rcases h.2 with ⟨rfl, _⟩ | ⟨g, cap, rest, rfl, B, _⟩
  · simp [ownB]
  · intro x hx; simp [ownB] at hx; subst hx; exact ⟨_, B⟩
theorem Slc.ne_blk {w : World} {e t : TypeId} {size n b : Nat} {v : Value} {l : List Value} {cs : Array Value} (h : Slc w e size v n l) (B : Blk w b t cs) (hne : t ≠ e) : b ∉ ownB v := by
  intro hb
  obtain ⟨_, B'⟩ := h.blkOf b hb
  exact (B.ne_ B' hne) rfl
theorem Slc.ne_slc {w : World} {e e' : TypeId} {size n n' : Nat} {v v' : Value} {l l' : List Value} (h : Slc w e size v n l) (h' : Slc w e' size v' n' l') (hne : e ≠ e') : ∀ g ∈ ownB v, g ∉ ownB v' := by
  intro g hg
  obtain ⟨_, B⟩ := h.blkOf g hg
  exact h'.ne_blk B hne
theorem Slc.notIn {w : World} {e t : TypeId} {size n b : Nat} {v : Value} {l : List Value} {cs : Array Value} (h : Slc w e size v n l) (B : Blk w b t cs) (hne : t ≠ e) : ∀ g ∈ ownB v, g ∉ [b] := by
  intro g hg hb
  simp at hb; subst hb
  exact h.ne_blk B hne hg
end Go.Proofs.Ytclompapmbhijaa
namespace Go.Proofs.Ytclompapmbhijaa.Dk
open Go.RowKit
/-- an append's run, whatever its words are yet -/
noncomputable def appRunX (P : Program) (T ty : TypeId) (w : World) (xs : Array Value) : Result Value := (Builtin.append_ #[T, T] ty xs).run P w
theorem run_app (P : Program) (T ty : TypeId) (w : World) (xs : Array Value) : (Builtin.append_ #[T, T] ty xs).run P w = appRunX P T ty w xs := rfl
theorem appRunX_two (P : Program) (T ty : TypeId) (w : World) (s x : Value) : appRunX P T ty w #[s, x] = appRun P T ty w s x := rfl
attribute [local go_sem ↓] Go.wp_at_zero Go.wp_at_succ
attribute [local go_sem ↓] exec_app run_app
attribute [local go_sem] appRunX_two

def zeroB : ByteArray := fillB .empty
def X.made (n : Nat) : X := { safe := List.replicate n zeroB, new := List.replicate n .empty, is := List.replicate n false, arm := 0, calls := 0, down := false }
theorem sv_succ (k : Nat) (s : ByteArray) : sv (List.replicate k s) ++ [.string s] = sv (List.replicate (k + 1) s) := by
  rw [List.replicate_succ']; simp [sv]
theorem bl_succ (k : Nat) (s : Bool) : bools (List.replicate k s) ++ [.bool s] = bools (List.replicate (k + 1) s) := by
  rw [List.replicate_succ']; simp [bools]
/-- a disk that is being made -/
structure Mk (w0 : Nat) (w : World) (b kS kW kI : Nat) (vS vW vI : Value) : Prop where
  hb : Blk w b 33 #[vS, vW, vI, .int .i64 0, .int .i64 0, .bool false]
  hS : Slc w 9 1 vS kS (sv (List.replicate kS zeroB))
  hW : Slc w 9 1 vW kW (sv (List.replicate kW .empty))
  hI : Slc w 4 1 vI kI (bools (List.replicate kI false))
  sw : ∀ g ∈ ownB vS, g ∉ ownB vW
  nb : w0 ≤ b
  nS : ∀ g ∈ ownB vS, w0 ≤ g
  nW : ∀ g ∈ ownB vW, w0 ≤ g
  nI : ∀ g ∈ ownB vI, w0 ≤ g
theorem info_string : (Try.prog.info? 9).map (fun i => (i.zero, i.size, i.bytes)) = some (some (.string .empty), 1, 16) := by kernel_rfl
theorem info_bool1 : (Try.prog.info? 4).map (fun i => (i.zero, i.size, i.bytes)) = some (some (.bool false), 1, 1) := by kernel_rfl
theorem Mk.stepS {w0 : Nat} {w : World} {b kS kW kI : Nat} {vS vW vI : Value} (h : Mk w0 w b kS kW kI vS vW vI) (h0 : w0 ≤ w.heap.size) (hk : kS ≤ 4096) :
    ∃ v' w', appRun Try.prog 31 31 (w.alloc (.cells #[.string zeroB] 9)) vS (.slice (some ⟨w.heap.size, 0, none⟩) 1 1) = .ok v' w' ∧ Mk w0 (w'.setCell ⟨b, 0, none⟩ v') b (kS + 1) kW kI v' vW vI ∧ Below w0 w (w'.setCell ⟨b, 0, none⟩ v') ∧ w'.cell? ⟨b, 0, none⟩ = some vS ∧ w'.frozen? ⟨b, 0, none⟩ = false := by
  obtain ⟨v', w', ea, S', o, F⟩ := append_one (P := Try.prog) h.hS 31 31 (.string .empty) 16 Try.underlying31 info_string rfl (.string zeroB) rfl (by unfold maxLen; omega) (by omega)
  rw [sv_succ] at S'
  have hbS : b ∉ ownB vS := h.hS.ne_blk h.hb (by decide)
  have B' := h.hb.only o hbS
  have W' := h.hW.only o (fun g hg hg' => h.sw g hg' hg)
  have I' := h.hI.only o (fun g hg hg' => h.hI.ne_slc h.hS (by decide) g hg hg')
  have n' : ∀ g ∈ ownB v', w0 ≤ g := fun g hg => (F g hg).elim (h.nS g) (fun h => Nat.le_trans h0 h)
  have o2 : Only [b] w' (w'.setCell ⟨b, 0, none⟩ v') := (Only.refl _ _).setCell (by simp) _
  refine ⟨v', w', ea, ⟨?_, S'.only o2 (S'.notIn B' (by decide)), W'.only o2 (W'.notIn B' (by decide)), I'.only o2 (I'.notIn B' (by decide)), ?_, h.nb, n', h.nW, h.nI⟩, ?_, B'.cell_some rfl, B'.frozen 0 (by simp)⟩
  · exact B'.set_ 0 v'
  · intro g hg
    rcases F g hg with h1 | h1
    · exact h.sw g h1
    · intro hg'
      have := h.hW.lt g hg'
      omega
  · exact (o.below_of h0 h.nS).setCell h.nb _
theorem Mk.stepW {w0 : Nat} {w : World} {b kS kW kI : Nat} {vS vW vI : Value} (h : Mk w0 w b kS kW kI vS vW vI) (h0 : w0 ≤ w.heap.size) (hk : kW ≤ 4096) :
    ∃ v' w', appRun Try.prog 31 31 (w.alloc (.cells #[.string .empty] 9)) vW (.slice (some ⟨w.heap.size, 0, none⟩) 1 1) = .ok v' w' ∧ Mk w0 (w'.setCell ⟨b, 1, none⟩ v') b kS (kW + 1) kI vS v' vI ∧ Below w0 w (w'.setCell ⟨b, 1, none⟩ v') ∧ w'.cell? ⟨b, 1, none⟩ = some vW ∧ w'.frozen? ⟨b, 1, none⟩ = false := by
  obtain ⟨v', w', ea, S', o, F⟩ := append_one (P := Try.prog) h.hW 31 31 (.string .empty) 16 Try.underlying31 info_string rfl (.string .empty) rfl (by unfold maxLen; omega) (by omega)
  rw [sv_succ] at S'
  have hbW : b ∉ ownB vW := h.hW.ne_blk h.hb (by decide)
  have B' := h.hb.only o hbW
  have W' := h.hS.only o (fun g hg hg' => h.sw g hg hg')
  have I' := h.hI.only o (fun g hg hg' => h.hI.ne_slc h.hW (by decide) g hg hg')
  have n' : ∀ g ∈ ownB v', w0 ≤ g := fun g hg => (F g hg).elim (h.nW g) (fun h => Nat.le_trans h0 h)
  have o2 : Only [b] w' (w'.setCell ⟨b, 1, none⟩ v') := (Only.refl _ _).setCell (by simp) _
  refine ⟨v', w', ea, ⟨?_, W'.only o2 (W'.notIn B' (by decide)), S'.only o2 (S'.notIn B' (by decide)), I'.only o2 (I'.notIn B' (by decide)), ?_, h.nb, h.nS, n', h.nI⟩, ?_, B'.cell_some rfl, B'.frozen 1 (by simp)⟩
  · exact B'.set_ 1 v'
  · intro g hg hg'
    rcases F g hg' with h1 | h1
    · exact h.sw g hg h1
    · have := h.hS.lt g hg
      omega
  · exact (o.below_of h0 h.nW).setCell h.nb _
theorem Mk.stepI {w0 : Nat} {w : World} {b kS kW kI : Nat} {vS vW vI : Value} (h : Mk w0 w b kS kW kI vS vW vI) (h0 : w0 ≤ w.heap.size) (hk : kI ≤ 4096) :
    ∃ v' w', appRun Try.prog 23 23 (w.alloc (.cells #[.bool false] 4)) vI (.slice (some ⟨w.heap.size, 0, none⟩) 1 1) = .ok v' w' ∧ Mk w0 (w'.setCell ⟨b, 2, none⟩ v') b kS kW (kI + 1) vS vW v' ∧ Below w0 w (w'.setCell ⟨b, 2, none⟩ v') ∧ w'.cell? ⟨b, 2, none⟩ = some vI ∧ w'.frozen? ⟨b, 2, none⟩ = false := by
  obtain ⟨v', w', ea, S', o, F⟩ := append_one (P := Try.prog) h.hI 23 23 (.bool false) 1 Try.underlying23 info_bool1 rfl (.bool false) rfl (by unfold maxLen; omega) (by omega)
  rw [bl_succ] at S'
  have hbI : b ∉ ownB vI := h.hI.ne_blk h.hb (by decide)
  have B' := h.hb.only o hbI
  have W' := h.hS.only o (fun g hg hg' => h.hS.ne_slc h.hI (by decide) g hg hg')
  have I' := h.hW.only o (fun g hg hg' => h.hW.ne_slc h.hI (by decide) g hg hg')
  have n' : ∀ g ∈ ownB v', w0 ≤ g := fun g hg => (F g hg).elim (h.nI g) (fun h => Nat.le_trans h0 h)
  have o2 : Only [b] w' (w'.setCell ⟨b, 2, none⟩ v') := (Only.refl _ _).setCell (by simp) _
  refine ⟨v', w', ea, ⟨B'.set_ 2 v', W'.only o2 (W'.notIn B' (by decide)), I'.only o2 (I'.notIn B' (by decide)), S'.only o2 (S'.notIn B' (by decide)), h.sw, h.nb, h.nS, h.nW, n'⟩, (o.below_of h0 h.nI).setCell h.nb _, B'.cell_some rfl, B'.frozen 2 (by simp)⟩
theorem Mk.below {w0 : Nat} {w w' : World} {b kS kW kI : Nat} {vS vW vI : Value} (h : Mk w0 w b kS kW kI vS vW vI) (hb : Below w.heap.size w w') : Mk w0 w' b kS kW kI vS vW vI :=
  ⟨h.hb.below hb h.hb.lt, h.hS.below hb, h.hW.below hb, h.hI.below hb, h.sw, h.nb, h.nS, h.nW, h.nI⟩
set_option maxRecDepth 100000 in
set_option maxHeartbeats 4000000 in
theorem xmade_any (n : Nat) (w : World) (hn : n ≤ 4096) :
    Calls Try.prog 27 #[.int .i64 n] w fun e w' => ∃ b vS vW vI, e = .returned (xp b) ∧ Mk w.heap.size w' b n n n vS vW vI ∧ Below w.heap.size w w' := by
  have O0 := (Below.refl w.heap.size w).alloc (Nat.le_refl _) (.cells #[.slice none 0 0, .slice none 0 0, .slice none 0 0, .int .i64 0, .int .i64 0, .bool false] 33)
  have M0 : Mk w.heap.size (w.alloc (.cells #[.slice none 0 0, .slice none 0 0, .slice none 0 0, .int .i64 0, .int .i64 0, .bool false] 33)) w.heap.size 0 0 0 (.slice none 0 0) (.slice none 0 0) (.slice none 0 0) :=
    ⟨Blk.new _ _ _, Slc.nil _ _ _, Slc.nil _ _ _, Slc.nil _ _ _, by simp [ownB], Nat.le_refl _, by simp [ownB], by simp [ownB], by simp [ownB]⟩
  unfold xp
  go_enter Try.func27, Try.ntmps27
  go_wp2_with fail
  generalize w.alloc (.cells #[.slice none 0 0, .slice none 0 0, .slice none 0 0, .int .i64 0, .int .i64 0, .bool false] 33) = W at *
  generalize hq : w.heap.size = q at *
  have HQ := Lib.hid hq
  clear hq
  go_loopw [4] (fun iv wr => ∃ (k : Nat) (vS vW vI : Value), k ≤ n ∧ iv = .int .i64 k ∧ Mk q wr q k k k vS vW vI ∧ Below q w wr) (fun iv _ => n - (intOf iv).toNat)
  case atStart => exact ⟨0, _, _, _, by omega, rfl, M0, O0⟩
  case round =>
    obtain ⟨k, vS, vW, vI, hk, rfl, hM, hO⟩ := hrel
    by_cases h : k < n
    · have KF := Lib.hid (fill_any .empty wr.drew (by decide))
      rw [show (⟨(fillF (ByteArray.empty).data.toList).toArray⟩ : ByteArray) = zeroB from rfl] at KF
      obtain ⟨aS, bS, rfl⟩ := slc_val hM.hS
      obtain ⟨aW, bW, rfl⟩ := slc_val hM.hW
      obtain ⟨aI, bI, rfl⟩ := slc_val hM.hI
      have f0 := hM.hb.cell_some (i := 0) rfl
      have HM := Lib.hid hM
      have HO := Lib.hid hO
      clear hM hO
      go_wp2_with fail
      go_region_with (first | (go_at_call 18; refine KF.out.mono ?_; rintro e w1 ⟨rfl, hb⟩; have hs1 : q ≤ w1.heap.size := HQ.out ▸ Nat.le_trans HO.out.size hb.size; have M1 := HM.out.below (w' := w1) (((Below.refl wr.heap.size wr).drew).trans hb); have f0' := M1.hb.cell_some (i := 0) rfl; have hnn : w1.heap.size ≠ q := World.new_ne w1 ⟨q, 0, none⟩ f0'; have hnm : q ≠ w1.heap.size := fun e => hnn e.symm; have hnl : q < w1.heap.size := M1.hb.lt; obtain ⟨v1, w2, ea, M2, hb2, f02, z02⟩ := M1.stepS hs1 (by omega); obtain ⟨a1, b1, rfl⟩ := slc_val M2.hS; have M2 := Lib.hid M2; have hb1 := Lib.hid hb; have hb2 := Lib.hid hb2; clear hb M1))
      all_goals
        clear ea f02 z02 f0 f0' hnn hnm hnl KF
        have HO1 := Lib.hid ((HO.out.drew).trans (hb1.out.mono (by have h1 := HO.out.size; have h2 := HQ.out; simp; omega)))
        have HO2 := Lib.hid (show Below q w (w2.setCell ⟨q, 0, none⟩ (.slice a1 (k + 1) b1)) from ⟨hb2.out.os.trans HO1.out.os, hb2.out.tape.trans HO1.out.tape, hb2.out.output.trans HO1.out.output, Nat.le_trans HO1.out.size hb2.out.size, fun i hi => (hb2.out.block i hi).trans (HO1.out.block i hi)⟩)
        clear hb1 hb2 HO1
        generalize w2.setCell ⟨q, 0, none⟩ (.slice a1 (k + 1) b1) = w3 at *
        have hs3 : q ≤ w3.heap.size := Nat.le_of_lt M2.out.hb.lt
        have f1 := M2.out.hb.cell_some (i := 1) rfl
        obtain ⟨v4, w4, eb, M4, hb4, f14, z14⟩ := M2.out.stepW hs3 (by omega)
        obtain ⟨a4, b4, rfl⟩ := slc_val M4.hW
        have M4 := Lib.hid M4
        have HO4 := Lib.hid (HO2.out.trans (hb4))
        clear hb4 HO2
        change appRun Try.prog 31 31 (w3.alloc (.cells #[.string ⟨#[]⟩] 9)) _ _ = _ at eb
        go_upto_region 7 with (fail)
        clear eb f14 z14 f1
        have M4' := M4.out
        generalize w4.setCell ⟨q, 1, none⟩ (.slice a4 (k + 1) b4) = w5 at *
        have f2 := M4'.hb.cell_some (i := 2) rfl
        obtain ⟨v6, w6, ec, M6, hb6, f26, z26⟩ := M4'.stepI (Nat.le_of_lt M4'.hb.lt) (by omega)
        obtain ⟨a6, b6, rfl⟩ := slc_val M6.hI
        have M6 := Lib.hid M6
        have HO6 := Lib.hid (show Below q w (w6.setCell ⟨q, 2, none⟩ (.slice a6 (k + 1) b6)) from ⟨hb6.os.trans HO4.out.os, hb6.tape.trans HO4.out.tape, hb6.output.trans HO4.out.output, Nat.le_trans HO4.out.size hb6.size, fun i hi => (hb6.block i hi).trans (HO4.out.block i hi)⟩)
        clear hb6 HO4 M4' M2
        go_wp2_with fail
        go_roundw
        case rel => exact ⟨k + 1, _, _, _, by omega, by go_num, M6.out, HO6.out⟩
        case measure => simp [intOf]; omega
    · have hkn : k = n := by omega
      subst hkn
      go_wp2_with fail
      go_ret
      cases HQ.out
      exact ⟨_, vS, vW, vI, rfl, hM, hO⟩
end Go.Proofs.Ytclompapmbhijaa.Dk
