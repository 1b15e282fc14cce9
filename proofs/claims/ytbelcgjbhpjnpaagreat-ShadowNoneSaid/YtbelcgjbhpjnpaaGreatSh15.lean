/- pool by its contracts: victim itself. -/
import Derived.Test.YtbelcgjbhpjnpaaGreatSh14
import Derived.WalkMore
namespace Go.Proofs.YtbelcgjbhpjnpaaGreat.Sh
open Go.RowKit Pk Dk Pg
attribute [local go_sem ↓] Go.wp_at_zero Go.wp_at_succ
def frD (l : List Fr) (k : Nat) : Fr := (l[k]?).getD Fr.nil
/-- one frame further -/
def PS.turn (s : PS) : PS := { s with hand := (s.hand + 1) % s.l.length }
def PS.spin : Nat → PS → PS × Int
  | 0, s => (s, -1)
  | m + 1, s =>
    if 0 < (frD s.l s.hand).held then PS.spin m s.turn
    else if (frD s.l s.hand).used = true then PS.spin m { s.turn with l := s.l.set s.hand { frD s.l s.hand with used := false } }
    else (s.turn, (s.hand : Int))
def PS.victimF (s : PS) : PS × Int :=
  if 0 ≤ ixF (fun f => decide (f.page < 0)) s.l then (s, ixF (fun f => decide (f.page < 0)) s.l) else s.spin (2 * s.l.length + 1)
theorem frD_get {l : List Fr} {k : Nat} (h : k < l.length) : l[k]? = some (frD l k) := by unfold frD; rw [List.getElem?_eq_getElem h]; rfl
set_option maxRecDepth 100000 in
set_option maxHeartbeats 4000000 in
theorem victim_any {w : World} {y : Y} {n : Nat} {s : PS} (h : AtP w y n s) :
    Calls Tryz.prog 128 #[pp y.pb] w fun e w' => e = .returned (.int .i64 s.victimF.2) ∧ AtP w' y n s.victimF.1 ∧ Only y.fp w w' := by
  have hpl := h.lt y.pb (by simp [Y.fp])
  have O0 := Lib.hid (belowAlloc (Below.refl w.heap.size w) (.cells #[.pointer (some ⟨y.pb, 0, none⟩)] 75))
  have B0 := Lib.hid (Blk.new w 75 #[.pointer (some ⟨y.pb, 0, none⟩)])
  have H0 := Lib.hid (h.below O0.out)
  have KI := Lib.hid (ixvict_any y.fg s.l.length y.cp s.l H0.out.frs rfl (by have := h.l2; omega))
  have NP := Lib.hid (show w.heap.size ≠ y.pb from by omega)
  have NF := Lib.hid (show w.heap.size ∉ y.fp from fun hm => by have := h.lt _ hm; omega)
  have q0 := B0.out.cell_some (i := 0) rfl
  have p1 := H0.out.p1
  have l2 := h.l2
  obtain ⟨R, hR⟩ : ∃ R, s.victimF = R := ⟨_, rfl⟩
  rw [hR]
  unfold PS.victimF at hR
  clear h hpl
  unfold pp at *
  rcases ixF_le (fun f => decide (f.page < 0)) s.l with e | ⟨k, f, e, hf, _⟩
  · rw [e, if_neg (by omega)] at hR
    rw [e] at KI
    obtain ⟨N, hN⟩ : ∃ N, 2 * s.l.length + 1 = N := ⟨_, rfl⟩
    have m1 : IntKind.i64.wrap (2 * (s.l.length : Int)) = 2 * (s.l.length : Int) := IntWalk.i64_in _ (by omega)
    have m2 : IntKind.i64.wrap (2 * (s.l.length : Int) + 1) = (N : Int) := by rw [IntWalk.i64_in _ (by omega)]; omega
    have hN65 : N ≤ 65 := by omega
    rw [hN] at hR
    have HN := Lib.hid hN
    have HR := Lib.hid hR
    clear e hR hN
    go_enter Tryz.func128, Tryz.ntmps128
    go_wp2_with fail
    go_step3
    go_wp2_with fail
    refine KI.out.mono ?_
    rintro e w1 ⟨rfl, hb1⟩
    have O1 := Lib.hid (bstep O0.out hb1)
    have H1 := Lib.hid (H0.out.below hb1)
    have B1 := Lib.hid (B0.out.below hb1 B0.out.lt)
    have p1' := H1.out.p1
    have q1 := B1.out.cell_some (i := 0) rfl
    clear hb1 p1 q0
    go_wp2_with fail
    go_step3
    go_wp2_with fail
    clear p1' q1
    go_loopw [5, 24] (fun ov iv wr => ∃ (i : Nat) (s' : PS), i ≤ N ∧ ov = .int .i64 (-1) ∧ iv = .int .i64 i ∧ Hid (AtP wr y n s') ∧ Hid (s'.spin (N - i) = R) ∧ Hid (Only y.fp w wr) ∧ Hid (Blk wr w.heap.size 75 #[.pointer (some ⟨y.pb, 0, none⟩)])) (fun _ iv _ => N - (intOf iv).toNat)
    case atStart => exact ⟨0, s, Nat.zero_le _, rfl, rfl, H1, Lib.hid (by rw [Nat.sub_zero]; exact HR.out), Lib.hid (.of_below O1.out), B1⟩
    case round =>
      obtain ⟨i, s', hi, rfl, rfl, HA, HS, HO, HQ⟩ := hrel
      by_cases h : i < N
      · have KN := Lib.hid (next_any HA.out (HQ.out.cell_some (i := 0) rfl) NP.out)
        have q2 := HQ.out.cell_some (i := 0) rfl
        have p2 := HA.out.p2
        have hI : (i : Int) < (N : Int) := by omega
        have hf := frD_get HA.out.lh
        have hS := HS.out
        rw [show N - i = (N - (i + 1)) + 1 from by omega] at hS
        unfold PS.spin at hS
        generalize hfr : frD s'.l s'.hand = f at *
        have HF := Lib.hid hf
        clear hf hfr
        go_wp2_with fail
        refine KN.out.mono ?_
        rintro e w2 ⟨rfl, A2, o2⟩
        have A2 := Lib.hid A2
        have o2r := o2
        have o2 := Lib.hid (HO.out.trans o2r)
        obtain ⟨_, _, x2, _, x4⟩ := A2.out.frs s'.hand f HF.out
        have HF5 := Lib.hid (A2.out.setF s'.hand 4 (by omega) { f with used := false } (.bool false) HF.out rfl)
        have z5 := HF5.out.1
        have HQ2 := Lib.hid (HQ.out.only o2r NF.out)
        clear o2r q2 p2
        by_cases h1 : 0 < f.held
        · rw [if_pos h1] at hS
          have HS := Lib.hid hS
          clear hS
          generalize f.held = fh at *
          go_wp2_with fail
          go_roundw
          case rel => exact ⟨i + 1, s'.turn, by omega, rfl, by go_num, A2, HS, o2, HQ2⟩
          case measure => simp [intOf]; omega
        · rw [if_neg h1] at hS
          by_cases h2 : f.used = true
          · rw [if_pos h2] at hS
            rw [h2] at x4
            have HS := Lib.hid hS
            have A5 := Lib.hid HF5.out.2.1
            have O5 := Lib.hid (o2.out.trans HF5.out.2.2)
            have HQ5 := Lib.hid (HQ2.out.only HF5.out.2.2 NF.out)
            clear hS h2 HF5
            generalize f.held = fh at *
            go_wp2_with fail
            go_roundw
            case rel => exact ⟨i + 1, _, by omega, rfl, by go_num, A5, HS, O5, HQ5⟩
            case measure => simp [intOf]; omega
          · have h3 : f.used = false := by simpa using h2
            rw [if_neg h2] at hS
            rw [h3] at x4
            subst hS
            clear h2 HF5 HS HR
            generalize f.held = fh at *
            go_wp2_with fail
            rw [Exit.noGoto_ret]
            go_ret
            exact ⟨by first | rfl | simp, A2.out, o2.out⟩
      · have hiN : i = N := by omega
        subst hiN
        have hS := HS.out
        rw [Nat.sub_self] at hS
        unfold PS.spin at hS
        subst hS
        go_wp2_with fail
        rw [Exit.noGoto_ret]
        go_ret
        exact ⟨by first | rfl | simp, HA.out, HO.out⟩
  · rw [e, if_pos (by omega)] at hR
    rw [e] at KI
    subst hR
    have hk0 : (0 : Int) ≤ (k : Int) := by omega
    clear e hf
    go_enter Tryz.func128, Tryz.ntmps128
    go_wp2_with fail
    go_step3
    go_wp2_with fail
    refine KI.out.mono ?_
    rintro e w1 ⟨rfl, hb1⟩
    have O1 := Lib.hid (bstep O0.out hb1)
    have H1 := Lib.hid (H0.out.below hb1)
    clear hb1
    go_wp2_with fail
    rw [Exit.noGoto_ret]
    go_ret
    exact ⟨by first | rfl | simp, H1.out, .of_below O1.out⟩
end Go.Proofs.YtbelcgjbhpjnpaaGreat.Sh
