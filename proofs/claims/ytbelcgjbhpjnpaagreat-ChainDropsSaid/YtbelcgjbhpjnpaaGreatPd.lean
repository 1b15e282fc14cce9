/- pool by its contracts: Hold as one. -/
import Derived.Test.YtbelcgjbhpjnpaaGreatPc
set_option linter.all false
set_option linter.unusedVariables false
set_option linter.unusedSimpArgs false
set_option maxRecDepth 100000
namespace Go.Proofs.YtbelcgjbhpjnpaaGreat.Sh
open Go.RowKit Pk Dk Pg
/-- Hold, where no frame is dirty -/
def PS.holdF (s : PS) (n : Nat) (p : Int) : PS × ByteArray × Int :=
 if 0 ≤ findF s.l p then
  ({ s with l := s.l.set (findF s.l p).toNat { frD s.l (findF s.l p).toNat with held := (frD s.l (findF s.l p).toNat).held + 1, used := true } }, (frD s.l (findF s.l p).toNat).pay, 0)
 else if (s.c.readF n p).2 ≠ 0 then (s, ⟨#[]⟩, (s.c.readF n p).2)
 else if s.victimF.2 < 0 then (s.victimF.1, ⟨#[]⟩, 12)
 else ({ s.victimF.1 with l := s.victimF.1.l.set s.victimF.2.toNat ⟨p, ⟨(s.c.readF n p).1.toArray⟩, 1, false, true⟩ }, ⟨(s.c.readF n p).1.toArray⟩, 0)
/-- nothing is dirty, and what is held is a small number -/
def CleanL (l : List Fr) : Prop := ∀ f ∈ l, f.dirty = false ∧ 0 ≤ f.held ∧ f.held ≤ 4000000000000
theorem CleanL.set {l : List Fr} (h : CleanL l) (k : Nat) {f : Fr} (hf : f.dirty = false ∧ 0 ≤ f.held ∧ f.held ≤ 4000000000000) : CleanL (l.set k f) := by
 intro g hg
 rcases List.mem_or_eq_of_mem_set hg with hg | rfl
 ·exact h g hg
 ·exact hf
theorem spin_ok (m : Nat) (s : PS) (hl : s.hand < s.l.length) (hc : CleanL s.l) : CleanL (s.spin m).1.l ∧ (s.spin m).1.l.length = s.l.length ∧ ((s.spin m).2 = -1 ∨ ∃ k : Nat, (s.spin m).2 = k ∧ k < s.l.length) := by
 induction m generalizing s with
 | zero => exact ⟨hc, rfl, .inl rfl⟩
 | succ m ih =>
  unfold PS.spin
  have hf := frD_get hl
  have hm := hc _ (List.mem_of_getElem? hf)
  have ht : (s.hand + 1) % s.l.length < s.l.length := Nat.mod_lt _ (by omega)
  split
  ·exact ih s.turn ht hc
  ·split
   ·have := ih { s.turn with l := s.l.set s.hand { frD s.l s.hand with used := false } } (by rw [List.length_set]; exact ht) (hc.set _ hm)
    rw [List.length_set] at this
    exact this
   ·exact ⟨hc, rfl, .inr ⟨s.hand, rfl, hl⟩⟩
theorem victimF_ok (s : PS) (hl : s.hand < s.l.length) (hc : CleanL s.l) : CleanL s.victimF.1.l ∧ s.victimF.1.l.length = s.l.length ∧ (s.victimF.2 = -1 ∨ ∃ k : Nat, s.victimF.2 = k ∧ k < s.l.length) := by
 unfold PS.victimF
 split
 ·refine ⟨hc, rfl, ?_⟩
  rcases ixF_le (fun f => decide (f.page < 0)) s.l with e | ⟨k, f, e, hf, _⟩
  ·exact .inl e
  ·exact .inr ⟨k, e, (List.getElem?_eq_some_iff.1 hf).1⟩
 ·exact spin_ok _ s hl hc
theorem hold_any {w : World} {y : Y} {n : Nat} {s : PS} (h : AtP w y n s) (p : Int) (hc : CleanL s.l) :
  Calls Tryz.prog 52 #[pp y.pb, .int .i64 p] w fun e w' => e = .returned (.tuple #[.string (s.holdF n p).2.1, .int .i64 (s.holdF n p).2.2]) ∧ AtP w' y n (s.holdF n p).1 ∧ Only y.fp w w' := by
 unfold PS.holdF
 rcases findF_le s.l p with e | ⟨k, f, e, hf, _, _⟩
 ·rw [e, if_neg (by omega)]
  by_cases hr : (s.c.readF n p).2 = 0
  ·rw [if_neg (by simpa using hr)]
   obtain ⟨v1, v2, v3⟩ := victimF_ok s h.lh hc
   rcases v3 with v3 | ⟨k, v3, hk⟩
   ·rw [if_pos (by omega)]
    exact hold_full h p e hr (by omega)
   ·rw [if_neg (by omega), v3, show ((k : Nat) : Int).toNat = k from by omega]
    have hf := frD_get (l := s.victimF.1.l) (k := k) (by omega)
    exact hold_new h p e hr k v3 hf (v1 _ (List.mem_of_getElem? hf)).1
  ·rw [if_pos hr]
   exact (hold_bad h p e hr).mono fun e w' ⟨h1, h2⟩ => ⟨h1, h.below h2, .of_below h2⟩
 ·have hd : frD s.l k = f := by unfold frD; rw [hf]; rfl
  rw [e, if_pos (by omega), show ((k : Nat) : Int).toNat = k from by omega, hd]
  exact hold_hit h p k e hf (by have := hc f (List.mem_of_getElem? hf); omega)
end Go.Proofs.YtbelcgjbhpjnpaaGreat.Sh

/- pool by its contracts: Get. -/
namespace Go.Proofs.YtbelcgjbhpjnpaaGreat.Sh
open Go.RowKit Pk Dk Pg
attribute [local go_sem ↓] Go.wp_at_zero Go.wp_at_succ
set_option maxHeartbeats 1000000 in
theorem get1_any (b : ByteArray) (q : Nat) (w : World) (s0 : ByteArray) (B : Blk w q 9 #[.string s0]) :
  Calls Tryz.prog 122 #[.string b, .pointer (some ⟨q, 0, none⟩)] w fun e w' => e = .returned (.int .i64 0) ∧ Blk w' q 9 #[.string b] ∧ Only [q] w w' := by
 have q0 := B.cell_some (i := 0) rfl
 have q1 := B.frozen 0 (by simp)
 have B1 := Lib.hid (show Blk (w.setCell ⟨q, 0, none⟩ (.string b)) q 9 #[.string b] from B.set_ 0 (.string b))
 have O1 := Lib.hid ((Only.refl [q] w).setCell (p := ⟨q, 0, none⟩) (by simp) (.string b))
 clear B
 go_enter Tryz.func122, Tryz.ntmps122
 go_wp2_with fail
 go_ret
 exact ⟨by first | rfl | simp, B1.out, O1.out⟩
set_option maxRecDepth 100000 in
set_option maxHeartbeats 2000000 in
theorem with_bad {w : World} {y : Y} {n q : Nat} {s : PS} (h : AtP w y n s) (p : Int) (hc : CleanL s.l) (he : (s.holdF n p).2.2 ≠ 0) :
  Calls Tryz.prog 120 #[pp y.pb, .int .i64 p, .func (Fn.func 122) #[] #[.pointer (some ⟨q, 0, none⟩)]] w fun e w' => e = .returned (.int .i64 (s.holdF n p).2.2) ∧ AtP w' y n (s.holdF n p).1 ∧ Only y.fp w w' := by
 have KH := Lib.hid (hold_any h p hc)
 have hq : ((s.holdF n p).2.2 != 0) = true := by rw [bne_iff_ne]; exact he
 have hq2 : ((s.holdF n p).2.2 == 0) = false := by rw [beq_eq_false_iff_ne]; exact he
 generalize s.holdF n p = R at *
 clear h hc
 unfold pp at *
 go_enter Tryz.func120, Tryz.ntmps120
 go_wp2_with fail
 refine KH.out.mono ?_
 rintro e w1 ⟨rfl, A1, o1⟩
 have A1 := Lib.hid A1
 have o1 := Lib.hid o1
 go_wp2_with fail
 go_ret
 exact ⟨by first | rfl | simp, A1.out, o1.out⟩
set_option maxRecDepth 100000 in
set_option maxHeartbeats 2000000 in
theorem with_good {w : World} {y : Y} {n q : Nat} {s : PS} (h : AtP w y n s) (p : Int) (hc : CleanL s.l) (he : (s.holdF n p).2.2 = 0) (s0 : ByteArray) (B : Blk w q 9 #[.string s0]) (hq : q ∉ y.fp) (hb : ∀ f ∈ (s.holdF n p).1.l, -1000 ≤ f.held ∧ f.held ≤ 4000000000000) :
  Calls Tryz.prog 120 #[pp y.pb, .int .i64 p, .func (Fn.func 122) #[] #[.pointer (some ⟨q, 0, none⟩)]] w fun e w' => e = .returned (.int .i64 0) ∧ AtP w' y n ((s.holdF n p).1.letF p).1 ∧ Only (q :: y.fp) w w' ∧ Blk w' q 9 #[.string (s.holdF n p).2.1] := by
 have KH := Lib.hid (hold_any h p hc)
 rw [he] at KH
 generalize s.holdF n p = R at *
 have KL := Lib.hid (fun w' (A : AtP w' y n R.1) => let_any A p hb)
 have HQ := Lib.hid hq
 have HB := Lib.hid B
 clear h hc B hb he hq
 unfold pp at *
 go_enter Tryz.func120, Tryz.ntmps120
 go_wp2_with fail
 refine KH.out.mono ?_
 rintro e w1 ⟨rfl, A1, o1⟩
 have B1 := HB.out.only o1 HQ.out
 have KG := Lib.hid (get1_any R.2.1 q w1 s0 B1)
 have A1 := Lib.hid A1
 have o1 := Lib.hid o1
 clear B1
 go_wp2_with fail
 refine KG.out.mono ?_
 rintro e w2 ⟨rfl, B2, o2⟩
 have A2 := Lib.hid (A1.out.only o2 (fun g hg hm => by simp at hm; subst hm; exact HQ.out hg))
 have B2 := Lib.hid B2
 have o2 := Lib.hid o2
 go_wp2_with fail
 refine (KL.out w2 A2.out).mono ?_
 rintro e w3 ⟨rfl, A3, o3⟩
 have B3 := Lib.hid (B2.out.only o3 HQ.out)
 have A3 := Lib.hid A3
 have o3 := Lib.hid o3
 go_wp2_with fail
 go_ret
 exact ⟨by first | rfl | simp, A3.out, ((o1.out.mono (fun g hg _ => by simp [hg])).trans (o2.out.mono (fun g hg _ => by simp at hg; simp [hg]))).trans (o3.out.mono (fun g hg _ => by simp [hg])), B3.out⟩
end Go.Proofs.YtbelcgjbhpjnpaaGreat.Sh

/- pool by its contracts: Get itself. -/
namespace Go.Proofs.YtbelcgjbhpjnpaaGreat.Sh
open Go.RowKit Pk Dk Pg
attribute [local go_sem ↓] Go.wp_at_zero Go.wp_at_succ
set_option maxRecDepth 100000 in
set_option maxHeartbeats 2000000 in
theorem get_good {w : World} {y : Y} {n : Nat} {s : PS} (h : AtP w y n s) (p : Int) (hc : CleanL s.l) (he : (s.holdF n p).2.2 = 0) (hb : ∀ f ∈ (s.holdF n p).1.l, -1000 ≤ f.held ∧ f.held ≤ 4000000000000) :
  Calls Tryz.prog 46 #[pp y.pb, .int .i64 p] w fun e w' => e = .returned (.tuple #[.string (s.holdF n p).2.1, .int .i64 0]) ∧ AtP w' y n ((s.holdF n p).1.letF p).1 ∧ Only y.fp w w' := by
 have O0 := Lib.hid (belowAlloc (Below.refl w.heap.size w) (.cells #[.string ⟨#[]⟩] 9))
 have B0 := Lib.hid (Blk.new w 9 #[.string ⟨#[]⟩])
 have NQ := Lib.hid (show w.heap.size ∉ y.fp from fun hm => by have := h.lt _ hm; omega)
 have KW := Lib.hid (with_good (h.below O0.out) p hc he _ B0.out NQ.out hb)
 generalize (s.holdF n p).2.1 = r at *
 generalize ((s.holdF n p).1.letF p).1 = S2 at *
 clear h hc he hb
 unfold pp at *
 go_enter Tryz.func46, Tryz.ntmps46
 go_wp2_with fail
 refine KW.out.mono ?_
 rintro e w1 ⟨rfl, A1, o1, B1⟩
 have A1 := Lib.hid A1
 have o1 := Lib.hid ((Only.of_below (S := w.heap.size :: y.fp) O0.out).trans o1)
 have q0 := B1.cell_some (i := 0) rfl
 clear B1
 go_wp2_with fail
 go_ret2
 exact ⟨by first | rfl | simp, A1.out, o1.out.mono (fun g hg hlt => by simp at hg; rcases hg with rfl | hg; (· omega); exact hg)⟩
set_option maxRecDepth 100000 in
set_option maxHeartbeats 2000000 in
theorem get_bad {w : World} {y : Y} {n : Nat} {s : PS} (h : AtP w y n s) (p : Int) (hc : CleanL s.l) (he : (s.holdF n p).2.2 ≠ 0) :
  Calls Tryz.prog 46 #[pp y.pb, .int .i64 p] w fun e w' => e = .returned (.tuple #[.string ⟨#[]⟩, .int .i64 (s.holdF n p).2.2]) ∧ AtP w' y n (s.holdF n p).1 ∧ Only y.fp w w' := by
 have O0 := Lib.hid (belowAlloc (Below.refl w.heap.size w) (.cells #[.string ⟨#[]⟩] 9))
 have B0 := Lib.hid (Blk.new w 9 #[.string ⟨#[]⟩])
 have NQ := Lib.hid (show w.heap.size ∉ y.fp from fun hm => by have := h.lt _ hm; omega)
 have KW := Lib.hid (with_bad (q := w.heap.size) (h.below O0.out) p hc he)
 generalize (s.holdF n p) = R at *
 clear h hc he
 unfold pp at *
 go_enter Tryz.func46, Tryz.ntmps46
 go_wp2_with fail
 refine KW.out.mono ?_
 rintro e w1 ⟨rfl, A1, o1⟩
 have B1 := B0.out.only o1 NQ.out
 have A1 := Lib.hid A1
 have o1 := Lib.hid ((Only.of_below (S := y.fp) O0.out).trans o1)
 have q0 := B1.cell_some (i := 0) rfl
 clear B1
 go_wp2_with fail
 go_ret2
 exact ⟨by first | rfl | simp, A1.out, o1.out⟩
end Go.Proofs.YtbelcgjbhpjnpaaGreat.Sh
