/- pool by its contracts: victim. -/
import Derived.Test.YtbelcgjbhpjnpaaGreatPb
import Derived.WalkMore
set_option linter.all false
set_option linter.unusedVariables false
set_option linter.unusedSimpArgs false
set_option maxRecDepth 100000
namespace Go.Proofs.YtbelcgjbhpjnpaaGreat.Sh
open Go.RowKit Pk Dk Pg
attribute [local go_sem ↓] Go.wp_at_zero Go.wp_at_succ
set_option maxHeartbeats 1000000 in
theorem vict1_any (f : Fr) (w : World) (b : Bool) (hb : b = decide (f.page < 0)) :
  Calls Tryz.prog 175 #[f.agg] w fun e w' => e = .returned (.bool b) ∧ Below w.heap.size w w' := by
 have O0 := Lib.hid ((Below.refl w.heap.size w).alloc (Nat.le_refl _) (.cells #[.int .i64 f.page, .string f.pay, .int .i64 f.held, .bool f.dirty, .bool f.used] 150))
 have B0 := Blk.new w 150 #[.int .i64 f.page, .string f.pay, .int .i64 f.held, .bool f.dirty, .bool f.used]
 have c0 := B0.cell_some (i := 0) rfl
 have HB := Lib.hid hb
 clear hb B0
 unfold Fr.agg
 go_enter Tryz.func175, Tryz.ntmps175
 go_wp2_with fail
 go_ret
 exact ⟨by rw [HB.out]; first | rfl | simp, O0.out⟩
set_option maxRecDepth 100000 in
set_option maxHeartbeats 2000000 in
theorem ixvict_any {w : World} (g n c : Nat) (l : List Fr) (h : FrsAt w g l) (hl : l.length = n) (hn : n ≤ 1000000) :
  Calls Tryz.prog 173 #[.slice (some ⟨g, 0, none⟩) n c, .func (Fn.func 175) #[] #[]] w fun e w' => e = .returned (.int .i64 (ixF (fun f => decide (f.page < 0)) l)) ∧ Below w.heap.size w w' := by
 have HL := Lib.hid hl
 have H0 := Lib.hid h
 clear h hl
 go_enter Tryz.func173, Tryz.ntmps173
 go_wp2_with fail
 go_loopw [8] (fun iv wr => ∃ i : Nat, i ≤ n ∧ iv = .int .i64 i ∧ Hid (∀ (j : Nat) (a : Fr), j < i → l[j]? = some a → decide (a.page < 0) = false) ∧ Hid (Below w.heap.size w wr)) (fun iv _ => n - (intOf iv).toNat)
 case atStart => exact ⟨0, Nat.zero_le _, rfl, Lib.hid (fun j a hj => absurd hj (Nat.not_lt_zero j)), Lib.hid (Below.refl _ _)⟩
 case round =>
  obtain ⟨i, hi, rfl, HA, HB⟩ := hrel
  by_cases h : i < n
  ·have hf : l[i]? = some (l[i]'(by have := HL.out; omega)) := List.getElem?_eq_getElem _
   generalize (l[i]'(by have := HL.out; omega)) = f at hf
   obtain ⟨c0, c1, c2, c3, c4⟩ := (H0.out.below HB.out) i f hf
   have KF := Lib.hid (vict1_any f wr _ rfl)
   have HF := Lib.hid hf
   clear hf
   unfold Fr.agg at KF
   obtain ⟨b, hb⟩ : ∃ b, decide (f.page < 0) = b := ⟨_, rfl⟩
   rw [hb] at KF
   have HD := Lib.hid hb
   clear hb
   go_wp2_with fail
   refine KF.out.mono ?_
   rintro e w1 ⟨rfl, hb1⟩
   have HB1 := Lib.hid (bstep HB.out hb1)
   clear hb1
   cases b with
   | true =>
    have he := Lib.hid (ixF_hit (b := fun f => decide (f.page < 0)) HF.out HD.out HA.out)
    go_wp2_with fail
    go_ret
    exact ⟨by rw [he.out]; rfl, HB1.out⟩
   | false =>
    go_wp2_with fail
    go_roundw
    case rel =>
     refine ⟨i + 1, by omega, by go_num, Lib.hid (fun j a hj ha => ?_), HB1⟩
     rcases Nat.lt_succ_iff_lt_or_eq.1 hj with hj | rfl
     ·exact HA.out j a hj ha
     ·have := HF.out.symm.trans ha
      injection this with this
      subst this
      exact HD.out
    case measure => simp [intOf]; omega
  ·have he := Lib.hid (ixF_miss (b := fun f => decide (f.page < 0)) (l := l) (fun j a ha => HA.out j a (by have := (List.getElem?_eq_some_iff.1 ha).1; have := HL.out; omega) ha))
   go_wp2_with fail
   go_ret
   exact ⟨by rw [he.out]; rfl, HB.out⟩
set_option maxRecDepth 100000 in
set_option maxHeartbeats 2000000 in
theorem next_any {w : World} {y : Y} {n q : Nat} {s : PS} (h : AtP w y n s) (hq : w.cell? ⟨q, 0, none⟩ = some (pp y.pb)) (hqp : q ≠ y.pb) :
  Calls Tryz.prog 176 #[.pointer (some ⟨q, 0, none⟩)] w fun e w' => e = .returned (.pointer (some ⟨y.fg, s.hand * 5, none⟩)) ∧ AtP w' y n { s with hand := (s.hand + 1) % s.l.length } ∧ Only y.fp w w' := by
 have p1 := h.p1
 have p2 := h.p2
 have l1 := h.l1
 have l2 := h.l2
 have lh := h.lh
 obtain ⟨m, hm⟩ : ∃ m, (s.hand + 1) % s.l.length = m := ⟨_, rfl⟩
 have hml : m < s.l.length := by rw [← hm]; exact Nat.mod_lt _ (by omega)
 have hmI : ((s.hand : Int) + 1).tmod (s.l.length : Int) = (m : Int) := by rw [← hm]; rw [show ((s.hand : Int) + 1) = ((s.hand + 1 : Nat) : Int) from by omega]; exact (Int.ofNat_tmod _ _).symm
 have hlI : (s.hand : Int) < (s.l.length : Int) := by omega
 have m1 : IntKind.i64.wrap ((s.hand : Int) + 1) = (s.hand : Int) + 1 := IntWalk.i64_in _ (by omega)
 have m2 : IntKind.i64.wrap (m : Int) = (m : Int) := IntWalk.i64_in _ (by omega)
 have hnil : ¬ s.l = [] := by intro e; rw [e] at l1; simp at l1

 rw [hm]
 have HB := Lib.hid (fun w' (hb : Below w.heap.size w w') => h.below hb)
 have QB := Lib.hid (fun w' (hb : Below w.heap.size w w') => (hb.cell (cell_lt' hq)).trans hq)
 clear h hm
 unfold pp at *
 go_enter Tryz.func176, Tryz.ntmps176
 go_wp2_with fail
 go_quiet (fail)
 have O1 := Lib.hid (Below_drewN (Below.refl w.heap.size w) nq)
 generalize w.drewN nq = w1 at *
 have o0 := HB.out _ O1.out
 have od := o0.drew
 have z := (od.setH m hml).1
 have A := Lib.hid (od.setH m hml).2.1
 have OA := Lib.hid ((Only.of_below O1.out.drew).trans (od.setH m hml).2.2)
 have p2d := od.p2
 have HS := Lib.hid (show w1.drew.cell? ⟨q, 0, none⟩ = some (.pointer (some ⟨y.pb, 0, none⟩)) ∧ w1.drew.cell? ⟨y.pb, 1, none⟩ = some (.slice (some ⟨y.fg, 0, none⟩) s.l.length y.cp) from ⟨QB.out _ O1.out.drew, od.p1⟩)
 have HS2 := Lib.hid (show (w1.drew.setCell ⟨y.pb, 2, none⟩ (.int .i64 (m : Nat))).cell? ⟨q, 0, none⟩ = some (.pointer (some ⟨y.pb, 0, none⟩)) ∧ (w1.drew.setCell ⟨y.pb, 2, none⟩ (.int .i64 (m : Nat))).cell? ⟨y.pb, 1, none⟩ = some (.slice (some ⟨y.fg, 0, none⟩) s.l.length y.cp) from ⟨by
  have c := QB.out _ O1.out.drew
  have o := (Only.refl [y.pb] w1.drew).setCell (p := ⟨y.pb, 2, none⟩) (by simp) (.int .i64 (m : Nat))
  exact (o.cell (cell_lt' c) (by simpa using hqp)).trans c, A.out.p1⟩)
 clear o0 od p1 p2 hq
 go_wp2_with fail
 refine wp_region_held_drew (S := fun W' => W'.cell? ⟨q, 0, none⟩ = some (.pointer (some ⟨y.pb, 0, none⟩)) ∧ W'.cell? ⟨y.pb, 1, none⟩ = some (.slice (some ⟨y.fg, 0, none⟩) s.l.length y.cp)) (by kernel_rfl) (HS.out) (fun hHeld => ?_)
 refine zpl [(0,12),(1,13),(2,14),(3,15),(6,18),(7,19),(8,20),(9,21),(10,22)] ?_
 iterate 9 (refine ztp (v := ?_) rfl (by kernel_rfl) (fun _ _ _ h => h) (by assumption) ?_ ?_; rotate_left; (·intro w hS; (try dsimp only at hS); go_simp; try with_reducible rfl); try simp only [Act.put, pa, pb, pc])
 refine zpe ?_
 refine wpAnyH_ready (rs := [4]) (by kernel_rfl) (by simp) ?_
 refine AllReadyH.cons (o := ⟨some 16, _, _, _, _, _⟩) rfl (fun K hK => ?_) AllReadyH.nil
 go_simp
 refine hK.out _ _ (HS.out) (fun hHeld => ?_)
 try simp only [Act.put, pa, pb, pc]
 refine zpl [(5,17),(11,23),(12,24),(13,25)] ?_
 iterate 4 (refine ztp (v := ?_) rfl (by kernel_rfl) (fun _ _ _ h => h) (by assumption) ?_ ?_; rotate_left; (·intro w hS; (try dsimp only at hS); go_simp; try with_reducible rfl); try simp only [Act.put, pa, pb, pc])
 refine zpe ?_
 refine wpAnyH_ready (rs := [14]) (by kernel_rfl) (by simp) ?_
 refine AllReadyH.cons (o := ⟨none, _, _, _, _, _⟩) rfl (fun K hK => ?_) AllReadyH.nil
 go_simp
 refine hK.out _ _ (HS2.out) (fun hHeld => ?_)
 try simp only [Act.put, pa, pb, pc]
 refine wpAnyH_done (by kernel_rfl) ?_ _
 go_wp2_with fail
 go_ret
 exact ⟨by first | rfl | simp, A.out, OA.out⟩
end Go.Proofs.YtbelcgjbhpjnpaaGreat.Sh

/- pool by its contracts: victim itself. -/
namespace Go.Proofs.YtbelcgjbhpjnpaaGreat.Sh
open Go.RowKit Pk Dk Pg
attribute [local go_sem ↓] Go.wp_at_zero Go.wp_at_succ
def frD (l : List Fr) (k : Nat) : Fr := (l[k]?).getD Fr.nil
/-- one frame further -/
def PS.turn (s : PS) : PS := { s with hand := (s.hand + 1) % s.l.length }
def PS.spin : Nat → PS → PS × Int
 | 0, s => (s, -1)
 | m + 1, s =>
  if 0 < (frD s.l s.hand).held then PS.spin m s.turn
  else if (frD s.l s.hand).used = true then PS.spin m { s.turn with l := s.l.set s.hand { frD s.l s.hand with used := false } }
  else (s.turn, (s.hand : Int))
def PS.victimF (s : PS) : PS × Int :=
 if 0 ≤ ixF (fun f => decide (f.page < 0)) s.l then (s, ixF (fun f => decide (f.page < 0)) s.l) else s.spin (2 * s.l.length + 1)
theorem frD_get {l : List Fr} {k : Nat} (h : k < l.length) : l[k]? = some (frD l k) := by unfold frD; rw [List.getElem?_eq_getElem h]; rfl
set_option maxRecDepth 100000 in
set_option maxHeartbeats 4000000 in
theorem victim_any {w : World} {y : Y} {n : Nat} {s : PS} (h : AtP w y n s) :
  Calls Tryz.prog 128 #[pp y.pb] w fun e w' => e = .returned (.int .i64 s.victimF.2) ∧ AtP w' y n s.victimF.1 ∧ Only y.fp w w' := by
 have hpl := h.lt y.pb (by simp [Y.fp])
 have O0 := Lib.hid (belowAlloc (Below.refl w.heap.size w) (.cells #[.pointer (some ⟨y.pb, 0, none⟩)] 75))
 have B0 := Lib.hid (Blk.new w 75 #[.pointer (some ⟨y.pb, 0, none⟩)])
 have H0 := Lib.hid (h.below O0.out)
 have KI := Lib.hid (ixvict_any y.fg s.l.length y.cp s.l H0.out.frs rfl (by have := h.l2; omega))
 have NP := Lib.hid (show w.heap.size ≠ y.pb from by omega)
 have NF := Lib.hid (show w.heap.size ∉ y.fp from fun hm => by have := h.lt _ hm; omega)
 have q0 := B0.out.cell_some (i := 0) rfl
 have p1 := H0.out.p1
 have l2 := h.l2
 obtain ⟨R, hR⟩ : ∃ R, s.victimF = R := ⟨_, rfl⟩
 rw [hR]
 unfold PS.victimF at hR
 clear h hpl
 unfold pp at *
 rcases ixF_le (fun f => decide (f.page < 0)) s.l with e | ⟨k, f, e, hf, _⟩
 ·rw [e, if_neg (by omega)] at hR
  rw [e] at KI
  obtain ⟨N, hN⟩ : ∃ N, 2 * s.l.length + 1 = N := ⟨_, rfl⟩
  have m1 : IntKind.i64.wrap (2 * (s.l.length : Int)) = 2 * (s.l.length : Int) := IntWalk.i64_in _ (by omega)
  have m2 : IntKind.i64.wrap (2 * (s.l.length : Int) + 1) = (N : Int) := by rw [IntWalk.i64_in _ (by omega)]; omega
  have hN65 : N ≤ 65 := by omega
  rw [hN] at hR
  have HN := Lib.hid hN
  have HR := Lib.hid hR
  clear e hR hN
  go_enter Tryz.func128, Tryz.ntmps128
  go_wp2_with fail
  go_step3
  go_wp2_with fail
  refine KI.out.mono ?_
  rintro e w1 ⟨rfl, hb1⟩
  have O1 := Lib.hid (bstep O0.out hb1)
  have H1 := Lib.hid (H0.out.below hb1)
  have B1 := Lib.hid (B0.out.below hb1 B0.out.lt)
  have p1' := H1.out.p1
  have q1 := B1.out.cell_some (i := 0) rfl
  clear hb1 p1 q0
  go_wp2_with fail
  go_step3
  go_wp2_with fail
  clear p1' q1
  go_loopw [5, 24] (fun ov iv wr => ∃ (i : Nat) (s' : PS), i ≤ N ∧ ov = .int .i64 (-1) ∧ iv = .int .i64 i ∧ Hid (AtP wr y n s') ∧ Hid (s'.spin (N - i) = R) ∧ Hid (Only y.fp w wr) ∧ Hid (Blk wr w.heap.size 75 #[.pointer (some ⟨y.pb, 0, none⟩)])) (fun _ iv _ => N - (intOf iv).toNat)
  case atStart => exact ⟨0, s, Nat.zero_le _, rfl, rfl, H1, Lib.hid (by rw [Nat.sub_zero]; exact HR.out), Lib.hid (.of_below O1.out), B1⟩
  case round =>
   obtain ⟨i, s', hi, rfl, rfl, HA, HS, HO, HQ⟩ := hrel
   by_cases h : i < N
   ·have KN := Lib.hid (next_any HA.out (HQ.out.cell_some (i := 0) rfl) NP.out)
    have q2 := HQ.out.cell_some (i := 0) rfl
    have p2 := HA.out.p2
    have hI : (i : Int) < (N : Int) := by omega
    have hf := frD_get HA.out.lh
    have hS := HS.out
    rw [show N - i = (N - (i + 1)) + 1 from by omega] at hS
    unfold PS.spin at hS
    generalize hfr : frD s'.l s'.hand = f at *
    have HF := Lib.hid hf
    clear hf hfr
    go_wp2_with fail
    refine KN.out.mono ?_
    rintro e w2 ⟨rfl, A2, o2⟩
    have A2 := Lib.hid A2
    have o2r := o2
    have o2 := Lib.hid (HO.out.trans o2r)
    obtain ⟨_, _, x2, _, x4⟩ := A2.out.frs s'.hand f HF.out
    have HF5 := Lib.hid (A2.out.setF s'.hand 4 (by omega) { f with used := false } (.bool false) HF.out rfl)
    have z5 := HF5.out.1
    have HQ2 := Lib.hid (HQ.out.only o2r NF.out)
    clear o2r q2 p2
    by_cases h1 : 0 < f.held
    ·rw [if_pos h1] at hS
     have HS := Lib.hid hS
     clear hS
     generalize f.held = fh at *
     go_wp2_with fail
     go_roundw
     case rel => exact ⟨i + 1, s'.turn, by omega, rfl, by go_num, A2, HS, o2, HQ2⟩
     case measure => simp [intOf]; omega
    ·rw [if_neg h1] at hS
     by_cases h2 : f.used = true
     ·rw [if_pos h2] at hS
      rw [h2] at x4
      have HS := Lib.hid hS
      have A5 := Lib.hid HF5.out.2.1
      have O5 := Lib.hid (o2.out.trans HF5.out.2.2)
      have HQ5 := Lib.hid (HQ2.out.only HF5.out.2.2 NF.out)
      clear hS h2 HF5
      generalize f.held = fh at *
      go_wp2_with fail
      go_roundw
      case rel => exact ⟨i + 1, _, by omega, rfl, by go_num, A5, HS, O5, HQ5⟩
      case measure => simp [intOf]; omega
     ·have h3 : f.used = false := by simpa using h2
      rw [if_neg h2] at hS
      rw [h3] at x4
      subst hS
      clear h2 HF5 HS HR
      generalize f.held = fh at *
      go_wp2_with fail
      rw [Exit.noGoto_ret]
      go_ret
      exact ⟨by first | rfl | simp, A2.out, o2.out⟩
   ·have hiN : i = N := by omega
    subst hiN
    have hS := HS.out
    rw [Nat.sub_self] at hS
    unfold PS.spin at hS
    subst hS
    go_wp2_with fail
    rw [Exit.noGoto_ret]
    go_ret
    exact ⟨by first | rfl | simp, HA.out, HO.out⟩
 ·rw [e, if_pos (by omega)] at hR
  rw [e] at KI
  subst hR
  have hk0 : (0 : Int) ≤ (k : Int) := by omega
  clear e hf
  go_enter Tryz.func128, Tryz.ntmps128
  go_wp2_with fail
  go_step3
  go_wp2_with fail
  refine KI.out.mono ?_
  rintro e w1 ⟨rfl, hb1⟩
  have O1 := Lib.hid (bstep O0.out hb1)
  have H1 := Lib.hid (H0.out.below hb1)
  clear hb1
  go_wp2_with fail
  rw [Exit.noGoto_ret]
  go_ret
  exact ⟨by first | rfl | simp, H1.out, .of_below O1.out⟩
end Go.Proofs.YtbelcgjbhpjnpaaGreat.Sh

/- pool by its contracts: back. -/
namespace Go.Proofs.YtbelcgjbhpjnpaaGreat.Sh
open Go.RowKit Pk Dk Pg
attribute [local go_sem ↓] Go.wp_at_zero Go.wp_at_succ
set_option maxRecDepth 100000 in
set_option maxHeartbeats 2000000 in
/-- a frame that is not dirty is not written -/
theorem back_clean {w : World} {y : Y} {n : Nat} {s : PS} (h : AtP w y n s) (k : Nat) {f : Fr} (hf : s.l[k]? = some f) (hd : f.dirty = false) :
  Calls Tryz.prog 123 #[pp y.pb, .int .i64 (k : Nat)] w fun e w' => e = .returned (.int .i64 0) ∧ Below w.heap.size w w' := by
 have hk : k < s.l.length := (List.getElem?_eq_some_iff.1 hf).1
 have p1 := h.p1
 have l2 := h.l2
 have hkI : (k : Int) < (s.l.length : Int) := by omega
 obtain ⟨_, _, _, c3, _⟩ := h.frs k f hf
 rw [hd] at c3
 have OB := Lib.hid (Below.refl w.heap.size w)
 clear h hf hd
 unfold pp at *
 go_enter Tryz.func123, Tryz.ntmps123
 go_wp2_with fail
 go_ret
 exact ⟨by first | rfl | simp, OB.out⟩
end Go.Proofs.YtbelcgjbhpjnpaaGreat.Sh

/- pool by its contracts: Hold. -/
namespace Go.Proofs.YtbelcgjbhpjnpaaGreat.Sh
open Go.RowKit Pk Dk Pg
attribute [local go_sem ↓] Go.wp_at_zero Go.wp_at_succ
set_option maxRecDepth 100000 in
set_option maxHeartbeats 2000000 in
theorem hold_hit {w : World} {y : Y} {n : Nat} {s : PS} (h : AtP w y n s) (p : Int) (k : Nat) {f : Fr} (hk : findF s.l p = (k : Nat)) (hf : s.l[k]? = some f) (hb : -1000 ≤ f.held ∧ f.held ≤ 4000000000000) :
  Calls Tryz.prog 52 #[pp y.pb, .int .i64 p] w fun e w' => e = .returned (.tuple #[.string f.pay, .int .i64 0]) ∧ AtP w' y n { s with l := s.l.set k { f with held := f.held + 1, used := true } } ∧ Only y.fp w w' := by
 have KF := Lib.hid (find_any h p)
 rw [hk] at KF
 have hkl : k < s.l.length := (List.getElem?_eq_some_iff.1 hf).1
 have hkI : (k : Int) < (s.l.length : Int) := by omega
 have hk0 : (0 : Int) ≤ (k : Int) := by omega
 have HB := Lib.hid (fun w' (hb : Below w.heap.size w w') => h.below hb)
 have m1 : IntKind.i64.wrap (f.held + 1) = f.held + 1 := IntWalk.i64_in _ (by omega)
 have HF := Lib.hid hf
 have HL := Lib.hid h.l2
 clear h hk hf hb
 unfold pp at *
 go_enter Tryz.func52, Tryz.ntmps52
 go_wp2_with fail
 refine KF.out.mono ?_
 rintro e w1 ⟨rfl, hb1⟩
 have O1 := Lib.hid hb1
 have A1 := HB.out w1 hb1
 have p1 := A1.p1
 have A2 := A1.setF k 2 (by omega) { f with held := f.held + 1 } (.int .i64 (f.held + 1)) HF.out rfl
 obtain ⟨z1, A3, o3⟩ := A2
 have hf2 : (s.l.set k { f with held := f.held + 1 })[k]? = some { f with held := f.held + 1 } := by rw [List.getElem?_set_self hkl]
 obtain ⟨z2, A4, o4⟩ := A3.setF k 4 (by omega) { f with held := f.held + 1, used := true } (.bool true) hf2 rfl
 have hf4 : ((s.l.set k { f with held := f.held + 1 }).set k { f with held := f.held + 1, used := true })[k]? = some { f with held := f.held + 1, used := true } := by rw [List.getElem?_set_self (by simpa using hkl)]
 obtain ⟨_, x1, _, _, _⟩ := A4.frs k _ hf4
 obtain ⟨_, _, y2, _, _⟩ := A1.frs k f HF.out
 obtain ⟨_, _, _, _, y4⟩ := A3.frs k _ hf2
 simp only [List.set_set] at A4
 have AZ := Lib.hid A4
 have OZ := Lib.hid ((Only.of_below (S := y.fp) O1.out).trans (o3.trans o4))
 clear hb1 A1 A3 A4 o3 o4 hf2 hf4
 go_wp2_with fail
 go_ret2
 exact ⟨by first | rfl | simp, AZ.out, OZ.out⟩
set_option maxRecDepth 100000 in
set_option maxHeartbeats 2000000 in
theorem hold_bad {w : World} {y : Y} {n : Nat} {s : PS} (h : AtP w y n s) (p : Int) (hk : findF s.l p = -1) (hr : (s.c.readF n p).2 ≠ 0) :
  Calls Tryz.prog 52 #[pp y.pb, .int .i64 p] w fun e w' => e = .returned (.tuple #[.string ⟨#[]⟩, .int .i64 (s.c.readF n p).2]) ∧ Below w.heap.size w w' := by
 have KF := Lib.hid (find_any h p)
 rw [hk] at KF
 have HB := Lib.hid (fun w' (hb : Below w.heap.size w w') => h.below hb)
 have KR := Lib.hid (fun w' (hb : Below w.heap.size w w') => read_any (h.below hb).hs p)
 have hq : ((s.c.readF n p).2 == 0) = false := by rw [beq_eq_false_iff_ne]; exact hr
 have hq2 : ((s.c.readF n p).2 != 0) = true := by rw [bne_iff_ne]; exact hr
 generalize s.c.readF n p = R at *
 clear h hk
 unfold pp sp at *
 go_enter Tryz.func52, Tryz.ntmps52
 go_wp2_with fail
 refine KF.out.mono ?_
 rintro e w1 ⟨rfl, hb1⟩
 have O1 := Lib.hid hb1
 have p0 := (HB.out w1 hb1).p0
 clear hb1
 go_wp2_with fail
 refine (KR.out w1 O1.out).mono ?_
 rintro e w2 ⟨rfl, hb2⟩
 have O2 := Lib.hid (bstep O1.out hb2)
 clear hb2
 go_wp2_with fail
 go_ret2
 exact ⟨by first | rfl | simp, O2.out⟩
set_option maxRecDepth 100000 in
set_option maxHeartbeats 2000000 in
theorem hold_full {w : World} {y : Y} {n : Nat} {s : PS} (h : AtP w y n s) (p : Int) (hk : findF s.l p = -1) (hr : (s.c.readF n p).2 = 0) (hv : s.victimF.2 < 0) :
  Calls Tryz.prog 52 #[pp y.pb, .int .i64 p] w fun e w' => e = .returned (.tuple #[.string ⟨#[]⟩, .int .i64 12]) ∧ AtP w' y n s.victimF.1 ∧ Only y.fp w w' := by
 have KF := Lib.hid (find_any h p)
 rw [hk] at KF
 have HB := Lib.hid (fun w' (hb : Below w.heap.size w w') => h.below hb)
 have KR := Lib.hid (fun w' (hb : Below w.heap.size w w') => read_any (h.below hb).hs p)
 have KV := Lib.hid (fun w' (hb : Below w.heap.size w w') => victim_any (h.below hb))
 rw [hr] at KR
 generalize (s.c.readF n p).1 = R at *
 generalize s.victimF = V at *
 clear h hk
 unfold pp sp at *
 go_enter Tryz.func52, Tryz.ntmps52
 go_wp2_with fail
 refine KF.out.mono ?_
 rintro e w1 ⟨rfl, hb1⟩
 have O1 := Lib.hid hb1
 have p0 := (HB.out w1 hb1).p0
 clear hb1
 go_wp2_with fail
 refine (KR.out w1 O1.out).mono ?_
 rintro e w2 ⟨rfl, hb2⟩
 have O2 := Lib.hid (bstep O1.out hb2)
 clear hb2
 go_wp2_with fail
 refine (KV.out w2 O2.out).mono ?_
 rintro e w3 ⟨rfl, A3, o3⟩
 have A3 := Lib.hid A3
 have o3 := Lib.hid ((Only.of_below (S := y.fp) O2.out).trans o3)
 go_wp2_with fail
 go_ret2
 exact ⟨by first | rfl | simp, A3.out, o3.out⟩
end Go.Proofs.YtbelcgjbhpjnpaaGreat.Sh

/- pool by its contracts: Hold, a page comes in. -/
namespace Go.Proofs.YtbelcgjbhpjnpaaGreat.Sh
open Go.RowKit Pk Dk Pg
attribute [local go_sem ↓] Go.wp_at_zero Go.wp_at_succ
set_option maxRecDepth 100000 in
set_option maxHeartbeats 2000000 in
theorem hold_new {w : World} {y : Y} {n : Nat} {s : PS} (h : AtP w y n s) (p : Int) (hk : findF s.l p = -1) (hr : (s.c.readF n p).2 = 0) (k : Nat) (hv : s.victimF.2 = (k : Nat)) {f : Fr} (hf : s.victimF.1.l[k]? = some f) (hd : f.dirty = false) :
  Calls Tryz.prog 52 #[pp y.pb, .int .i64 p] w fun e w' => e = .returned (.tuple #[.string ⟨(s.c.readF n p).1.toArray⟩, .int .i64 0]) ∧ AtP w' y n { s.victimF.1 with l := s.victimF.1.l.set k ⟨p, ⟨(s.c.readF n p).1.toArray⟩, 1, false, true⟩ } ∧ Only y.fp w w' := by
 have KF := Lib.hid (find_any h p)
 rw [hk] at KF
 have HB := Lib.hid (fun w' (hb : Below w.heap.size w w') => h.below hb)
 have KR := Lib.hid (fun w' (hb : Below w.heap.size w w') => read_any (h.below hb).hs p)
 have KV := Lib.hid (fun w' (hb : Below w.heap.size w w') => victim_any (h.below hb))
 rw [hr] at KR
 rw [hv] at KV
 generalize (s.c.readF n p).1 = R at *
 generalize s.victimF.1 = V at *
 have KB := Lib.hid (fun w' (A : AtP w' y n V) => back_clean A k hf hd)
 have hkl : k < V.l.length := (List.getElem?_eq_some_iff.1 hf).1
 have hkI : (k : Int) < (V.l.length : Int) := by omega
 have hk0 : ¬ (k : Int) < 0 := by omega
 have HF := Lib.hid hf
 clear h hk hv hf hd
 unfold pp sp at *
 go_enter Tryz.func52, Tryz.ntmps52
 go_wp2_with fail
 refine KF.out.mono ?_
 rintro e w1 ⟨rfl, hb1⟩
 have O1 := Lib.hid hb1
 have p0 := (HB.out w1 hb1).p0
 clear hb1
 go_wp2_with fail
 refine (KR.out w1 O1.out).mono ?_
 rintro e w2 ⟨rfl, hb2⟩
 have O2 := Lib.hid (bstep O1.out hb2)
 clear hb2 p0
 go_wp2_with fail
 refine (KV.out w2 O2.out).mono ?_
 rintro e w3 ⟨rfl, A3, o3⟩
 have A3 := Lib.hid A3
 have o3 := Lib.hid ((Only.of_below (S := y.fp) O2.out).trans o3)
 go_wp2_with fail
 refine (KB.out w3 A3.out).mono ?_
 rintro e w4 ⟨rfl, hb4⟩
 have A4 := Lib.hid (A3.out.below hb4)
 have o4 := Lib.hid (o3.out.trans (Only.of_below (S := y.fp) hb4))
 have p1 := A4.out.p1
 have l2 := A4.out.l2
 obtain ⟨c0, c1, c2, c3, c4⟩ := A4.out.frs k f HF.out
 obtain ⟨z0, B0, q0⟩ := A4.out.setF k 0 (by omega) { f with page := p } (.int .i64 p) HF.out rfl
 rw [Nat.add_zero] at z0 B0 q0
 have g0 : (V.l.set k { f with page := p })[k]? = some { f with page := p } := by rw [List.getElem?_set_self hkl]
 obtain ⟨z1, B1, q1⟩ := B0.setF k 1 (by omega) { f with page := p, pay := ⟨R.toArray⟩ } (.string ⟨R.toArray⟩) g0 rfl
 simp only [List.set_set] at B1
 have g1 : (V.l.set k { f with page := p, pay := ⟨R.toArray⟩ })[k]? = some { f with page := p, pay := ⟨R.toArray⟩ } := by rw [List.getElem?_set_self hkl]
 obtain ⟨z2, B2, q2⟩ := B1.setF k 2 (by omega) { f with page := p, pay := ⟨R.toArray⟩, held := 1 } (.int .i64 1) g1 rfl
 simp only [List.set_set] at B2
 have g2 : (V.l.set k { f with page := p, pay := ⟨R.toArray⟩, held := 1 })[k]? = some { f with page := p, pay := ⟨R.toArray⟩, held := 1 } := by rw [List.getElem?_set_self hkl]
 obtain ⟨z3, B3, q3⟩ := B2.setF k 3 (by omega) { f with page := p, pay := ⟨R.toArray⟩, held := 1, dirty := false } (.bool false) g2 rfl
 simp only [List.set_set] at B3
 have g3 : (V.l.set k { f with page := p, pay := ⟨R.toArray⟩, held := 1, dirty := false })[k]? = some { f with page := p, pay := ⟨R.toArray⟩, held := 1, dirty := false } := by rw [List.getElem?_set_self hkl]
 obtain ⟨z4, B4, q4⟩ := B3.setF k 4 (by omega) ⟨p, ⟨R.toArray⟩, 1, false, true⟩ (.bool true) g3 rfl
 simp only [List.set_set] at B4
 have AZ := Lib.hid B4
 have OZ := Lib.hid (o4.out.trans ((((q0.trans q1).trans q2).trans q3).trans q4))
 clear hb4 B0 B1 B2 B3 B4 q0 q1 q2 q3 q4 g0 g1 g2 g3
 go_wp2_with fail
 go_ret2
 exact ⟨by first | rfl | simp, AZ.out, OZ.out⟩
end Go.Proofs.YtbelcgjbhpjnpaaGreat.Sh

/- pool by its contracts: Drop. -/
namespace Go.Proofs.YtbelcgjbhpjnpaaGreat.Sh
open Go.RowKit Pk Dk Pg
attribute [local go_sem ↓] Go.wp_at_zero Go.wp_at_succ
theorem AtP.same {w w' : World} {y : Y} {n : Nat} {s : PS} {c' : C} (h : AtP w y n s) (A : At w' y.x n c') (o : Only y.x.fp w w') : AtP w' y n { s with c := c' } ∧ Only y.fp w w' :=
 ⟨⟨h.hp.only o h.n1, h.hf.only o (fun g hg => by simp [ownB] at hg; subst hg; exact h.n2), A, h.n1, h.n2, h.l1, h.l2, h.lh⟩, o.mono (fun g hg _ => by simp [Y.fp, hg])⟩
set_option maxRecDepth 100000 in
set_option maxHeartbeats 2000000 in
theorem pdrop_held {w : World} {y : Y} {n : Nat} {s : PS} (h : AtP w y n s) (p : Int) (k : Nat) {f : Fr} (hk : findF s.l p = (k : Nat)) (hf : s.l[k]? = some f) (hh : 0 < f.held) :
  Calls Tryz.prog 58 #[pp y.pb, .int .i64 p] w fun e w' => e = .returned (.int .i64 16) ∧ Below w.heap.size w w' := by
 have KF := Lib.hid (find_any h p)
 rw [hk] at KF
 have HB := Lib.hid (fun w' (hb : Below w.heap.size w w') => h.below hb)
 have hkl : k < s.l.length := (List.getElem?_eq_some_iff.1 hf).1
 have hkI : (k : Int) < (s.l.length : Int) := by omega
 have hk0 : (0 : Int) ≤ (k : Int) := by omega
 have HF := Lib.hid hf
 have l2 := h.l2
 clear h hk hf
 unfold pp at *
 go_enter Tryz.func58, Tryz.ntmps58
 go_wp2_with fail
 refine KF.out.mono ?_
 rintro e w1 ⟨rfl, hb1⟩
 have O1 := Lib.hid hb1
 have A1 := Lib.hid (HB.out w1 hb1)
 have p0 := A1.out.p0
 have p1 := A1.out.p1
 obtain ⟨_, _, c2, _, _⟩ := A1.out.frs k f HF.out
 clear hb1
 go_wp2_with fail
 go_ret
 exact ⟨by first | rfl | simp, O1.out⟩
set_option maxRecDepth 100000 in
set_option maxHeartbeats 2000000 in
theorem pdrop_out {w : World} {y : Y} {n : Nat} {s : PS} (h : AtP w y n s) (p : Int) (hk : findF s.l p = -1) :
  Calls Tryz.prog 58 #[pp y.pb, .int .i64 p] w fun e w' => e = .returned (.int .i64 (s.c.dropF p).2) ∧ AtP w' y n { s with c := (s.c.dropF p).1 } ∧ Only y.fp w w' := by
 have KF := Lib.hid (find_any h p)
 rw [hk] at KF
 have HB := Lib.hid (fun w' (hb : Below w.heap.size w w') => h.below hb)
 have KD := Lib.hid (fun w' (hb : Below w.heap.size w w') => drop_any (h.below hb).hs p)
 have HP := Lib.hid (fun w1 (hb : Below w.heap.size w w1) w2 (A : At w2 y.x n (s.c.dropF p).1) (o : Only y.x.fp w1 w2) => (h.below hb).same A o)
 generalize s.c.dropF p = R at *
 obtain ⟨R1, R2⟩ := R
 dsimp only at *
 clear h hk
 unfold sp at *
 unfold pp at *
 go_enter Tryz.func58, Tryz.ntmps58
 go_wp2_with fail
 refine KF.out.mono ?_
 rintro e w1 ⟨rfl, hb1⟩
 have O1 := Lib.hid hb1
 have A1 := Lib.hid (HB.out w1 hb1)
 have p0 := A1.out.p0
 have p1 := A1.out.p1
 clear hb1
 go_wp2_with fail
 refine (KD.out w1 O1.out).mono ?_
 rintro e w2 ⟨rfl, A2, o2⟩
 have A3 := Lib.hid (HP.out w1 O1.out w2 A2 o2)
 clear A2 o2
 by_cases h0 : R2 = 0
 ·subst h0
  go_wp2_with fail
  go_ret
  exact ⟨by first | rfl | (simp; done) | (simp [h0]; done) | simp_all, A3.out.1, (Only.of_below (S := y.fp) O1.out).trans A3.out.2⟩
 ·have hq : (R2 != 0) = true := by rw [bne_iff_ne]; exact h0
  have hq2 : (R2 == 0) = false := by rw [beq_eq_false_iff_ne]; exact h0
  go_wp2_with fail
  go_ret
  exact ⟨by first | rfl | (simp; done) | (simp [h0]; done) | simp_all, A3.out.1, (Only.of_below (S := y.fp) O1.out).trans A3.out.2⟩
theorem AtP.setNil {w : World} {y : Y} {n : Nat} {s : PS} (h : AtP w y n s) (k : Nat) {f : Fr} (hf : s.l[k]? = some f) :
  w.frozen? ⟨y.fg, k * 5, none⟩ = false ∧ w.frozen? ⟨y.fg, k * 5 + 1, none⟩ = false ∧ w.frozen? ⟨y.fg, k * 5 + 2, none⟩ = false ∧ w.frozen? ⟨y.fg, k * 5 + 3, none⟩ = false ∧ w.frozen? ⟨y.fg, k * 5 + 4, none⟩ = false ∧
  AtP (((((w.setCell ⟨y.fg, k * 5, none⟩ (.int .i64 (-1))).setCell ⟨y.fg, k * 5 + 1, none⟩ (.string ⟨#[]⟩)).setCell ⟨y.fg, k * 5 + 2, none⟩ (.int .i64 0)).setCell ⟨y.fg, k * 5 + 3, none⟩ (.bool false)).setCell ⟨y.fg, k * 5 + 4, none⟩ (.bool false)) y n { s with l := s.l.set k Fr.nil } ∧
  Only y.fp w (((((w.setCell ⟨y.fg, k * 5, none⟩ (.int .i64 (-1))).setCell ⟨y.fg, k * 5 + 1, none⟩ (.string ⟨#[]⟩)).setCell ⟨y.fg, k * 5 + 2, none⟩ (.int .i64 0)).setCell ⟨y.fg, k * 5 + 3, none⟩ (.bool false)).setCell ⟨y.fg, k * 5 + 4, none⟩ (.bool false)) := by
 have hkl : k < s.l.length := (List.getElem?_eq_some_iff.1 hf).1
 obtain ⟨z0, B0, q0⟩ := h.setF k 0 (by omega) { f with page := -1 } (.int .i64 (-1)) hf rfl
 rw [Nat.add_zero] at z0 B0 q0
 have g0 : (s.l.set k { f with page := -1 })[k]? = some { f with page := -1 } := by rw [List.getElem?_set_self hkl]
 obtain ⟨_, B1, q1⟩ := B0.setF k 1 (by omega) { f with page := -1, pay := ⟨#[]⟩ } (.string ⟨#[]⟩) g0 rfl
 simp only [List.set_set] at B1
 have g1 : (s.l.set k { f with page := -1, pay := ⟨#[]⟩ })[k]? = some { f with page := -1, pay := ⟨#[]⟩ } := by rw [List.getElem?_set_self hkl]
 obtain ⟨_, B2, q2⟩ := B1.setF k 2 (by omega) { f with page := -1, pay := ⟨#[]⟩, held := 0 } (.int .i64 0) g1 rfl
 simp only [List.set_set] at B2
 have g2 : (s.l.set k { f with page := -1, pay := ⟨#[]⟩, held := 0 })[k]? = some { f with page := -1, pay := ⟨#[]⟩, held := 0 } := by rw [List.getElem?_set_self hkl]
 obtain ⟨_, B3, q3⟩ := B2.setF k 3 (by omega) { f with page := -1, pay := ⟨#[]⟩, held := 0, dirty := false } (.bool false) g2 rfl
 simp only [List.set_set] at B3
 have g3 : (s.l.set k { f with page := -1, pay := ⟨#[]⟩, held := 0, dirty := false })[k]? = some { f with page := -1, pay := ⟨#[]⟩, held := 0, dirty := false } := by rw [List.getElem?_set_self hkl]
 obtain ⟨_, B4, q4⟩ := B3.setF k 4 (by omega) Fr.nil (.bool false) g3 rfl
 simp only [List.set_set] at B4
 obtain ⟨rest, B, hr, _, _⟩ := h.hf.blk
 have hl := frc_length s.l
 have fz : ∀ j, j < 5 → w.frozen? ⟨y.fg, k * 5 + j, none⟩ = false := fun j hj => B.frozen _ (by simp; omega)
 exact ⟨fz 0 (by omega), fz 1 (by omega), fz 2 (by omega), fz 3 (by omega), fz 4 (by omega), B4, (((q0.trans q1).trans q2).trans q3).trans q4⟩
set_option maxRecDepth 100000 in
set_option maxHeartbeats 2000000 in
theorem pdrop_in {w : World} {y : Y} {n : Nat} {s : PS} (h : AtP w y n s) (p : Int) (k : Nat) {f : Fr} (hk : findF s.l p = (k : Nat)) (hf : s.l[k]? = some f) (hh : f.held = 0) :
  Calls Tryz.prog 58 #[pp y.pb, .int .i64 p] w fun e w' => e = .returned (.int .i64 (s.c.dropF p).2) ∧ AtP w' y n (if (s.c.dropF p).2 = 0 then { s with c := (s.c.dropF p).1, l := s.l.set k Fr.nil } else { s with c := (s.c.dropF p).1 }) ∧ Only y.fp w w' := by
 have KF := Lib.hid (find_any h p)
 rw [hk] at KF
 have KE := Lib.hid empty_any
 unfold Fr.nil Fr.agg at KE
 have HB := Lib.hid (fun w' (hb : Below w.heap.size w w') => h.below hb)
 have hkl : k < s.l.length := (List.getElem?_eq_some_iff.1 hf).1
 have hkI : (k : Int) < (s.l.length : Int) := by omega
 have hk0 : (0 : Int) ≤ (k : Int) := by omega
 have HF := Lib.hid hf
 have KD := Lib.hid (fun w' (hb : Below w.heap.size w w') => drop_any (h.below hb).hs p)
 have HP := Lib.hid (fun w1 (hb : Below w.heap.size w w1) w2 (A : At w2 y.x n (s.c.dropF p).1) (o : Only y.x.fp w1 w2) => (h.below hb).same A o)
 have l2 := h.l2
 generalize s.c.dropF p = R at *
 obtain ⟨R1, R2⟩ := R
 dsimp only at *
 clear h hk hf
 unfold sp at *
 by_cases h0 : R2 = 0
 ·subst h0
  rw [if_pos rfl]
  unfold pp at *
  go_enter Tryz.func58, Tryz.ntmps58
  go_wp2_with fail
  refine KF.out.mono ?_
  rintro e w1 ⟨rfl, hb1⟩
  have O1 := Lib.hid hb1
  have A1 := Lib.hid (HB.out w1 hb1)
  have p0 := A1.out.p0
  have p1 := A1.out.p1
  obtain ⟨_, _, c2, _, _⟩ := A1.out.frs k f HF.out
  rw [hh] at c2
  clear hb1 hh
  go_wp2_with fail
  refine (KD.out w1 O1.out).mono ?_
  rintro e w2 ⟨rfl, A2, o2⟩
  have A3 := Lib.hid (HP.out w1 O1.out w2 A2 o2)
  clear A2 o2 p0 p1 c2
  have AD := Lib.hid (A3.out.1.drew)
  have OD := Lib.hid ((((Only.refl y.fp w).trans (Only.of_below O1.out)).trans A3.out.2).drew)
  have P1D := Lib.hid AD.out.p1
  clear A3
  go_wp2_with fail
  refine wp_region_held_drew (S := fun W' => W'.cell? ⟨y.pb, 1, none⟩ = some (.slice (some ⟨y.fg, 0, none⟩) s.l.length y.cp)) (by kernel_rfl) (P1D.out) (fun hHeld => ?_)
  refine zpl [(0,39),(1,40),(2,41),(3,42),(4,43)] ?_
  iterate 5 (refine ztp (v := ?_) rfl (by kernel_rfl) (fun _ _ _ h => h) (by assumption) ?_ ?_; rotate_left; (·intro w hS; (try dsimp only at hS); go_simp; try with_reducible rfl); try simp only [Act.put, pa, pb, pc])
  refine zpe ?_
  refine wpAnyH_ready (rs := [5]) (by kernel_rfl) (by simp) ?_
  refine AllReadyH.cons (o := ⟨some 44, _, _, _, _, _⟩) rfl (fun K hK => ?_) AllReadyH.nil
  go_simp
  go_at_call 126
  refine (KE.out _).mono ?_
  rintro e w6 ⟨rfl, hb6⟩
  have A6 := Lib.hid (AD.out.below hb6)
  have O6 := Lib.hid (OD.out.trans (Only.of_below (S := y.fp) hb6))
  have p1y := A6.out.p1
  clear hb6
  refine hK.out _ _ (p1y) (fun hHeld => ?_)
  try simp only [Act.put, pa, pb, pc]
  refine zpl [(6,45)] ?_
  iterate 1 (refine ztp (v := ?_) rfl (by kernel_rfl) (fun _ _ _ h => h) (by assumption) ?_ ?_; rotate_left; (·intro w hS; (try dsimp only at hS); go_simp; try with_reducible rfl); try simp only [Act.put, pa, pb, pc])
  refine zpe ?_
  refine wpAnyH_ready (rs := [7]) (by kernel_rfl) (by simp) ?_
  refine AllReadyH.cons (o := ⟨none, _, _, _, _, _⟩) rfl (fun K hK => ?_) AllReadyH.nil
  go_simp
  have p1x := A6.out.p1
  have l2x := A6.out.l2
  obtain ⟨c0, c1, c2, c3, c4⟩ := A6.out.frs k f HF.out
  obtain ⟨z0, z1, z2, z3, z4, B4, q4⟩ := A6.out.setNil k HF.out
  have AZ := Lib.hid B4
  have OZ := Lib.hid (O6.out.trans q4)
  clear B4 q4
  go_simp
  refine hK.out _ _ (by have := AZ.out.p1; simpa using this) (fun hHeld => ?_)
  try simp only [Act.put, pa, pb, pc]
  refine wpAnyH_done (by kernel_rfl) ?_ _
  go_wp2_with fail
  go_ret
  exact ⟨by first | rfl | simp, AZ.out, OZ.out⟩
 ·have hq : (R2 != 0) = true := by rw [bne_iff_ne]; exact h0
  have hq2 : (R2 == 0) = false := by rw [beq_eq_false_iff_ne]; exact h0
  rw [if_neg h0]
  unfold pp at *
  go_enter Tryz.func58, Tryz.ntmps58
  go_wp2_with fail
  refine KF.out.mono ?_
  rintro e w1 ⟨rfl, hb1⟩
  have O1 := Lib.hid hb1
  have A1 := Lib.hid (HB.out w1 hb1)
  have p0 := A1.out.p0
  have p1 := A1.out.p1
  obtain ⟨_, _, c2, _, _⟩ := A1.out.frs k f HF.out
  rw [hh] at c2
  clear hb1 hh
  go_wp2_with fail
  refine (KD.out w1 O1.out).mono ?_
  rintro e w2 ⟨rfl, A2, o2⟩
  have A3 := Lib.hid (HP.out w1 O1.out w2 A2 o2)
  clear A2 o2
  go_wp2_with fail
  go_ret
  exact ⟨by first | rfl | simp, A3.out.1, (Only.of_below (S := y.fp) O1.out).trans A3.out.2⟩
end Go.Proofs.YtbelcgjbhpjnpaaGreat.Sh
