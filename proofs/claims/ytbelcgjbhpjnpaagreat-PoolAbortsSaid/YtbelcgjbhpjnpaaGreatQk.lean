/- the document's pool by its contracts: Commit, Abort. -/
import Derived.Test.YtbelcgjbhpjnpaaGreatQj
set_option linter.all false
set_option linter.unusedVariables false
set_option linter.unusedSimpArgs false
namespace Go.Proofs.YtbelcgjbhpjnpaaGreat.Sh
open Go.RowKit Pk Dk Pg
attribute [local go_sem ↓] Go.wp_at_zero Go.wp_at_succ
set_option maxRecDepth 100000 in
set_option maxHeartbeats 4000000 in
theorem xcommit {w : World} {pq rs n Kz : Nat} {q : QS} (h : RX w pq rs q) (H : Hq q n Kz) (hK : Kz ≤ 899000) :
  Calls Tryz.prog 49 #[rp pq] w fun e w' => e = .returned (.int .i64 q.commitF.2) ∧ RX w' pq rs q.commitF.1 ∧ Only [pq, rs] w w' := by
 have KC := Lib.hid (xheld h)
 have H0 := Lib.hid h
 have hl2 := H.l2
 obtain ⟨N, hN⟩ : ∃ N, q.l.length = N := ⟨_, rfl⟩
 have HN := Lib.hid hN
 have KB := Lib.hid (fun (i : Nat) (hi : i < N) (W : World) (hW : RX W pq rs (q.backsF i).1) => xback hW (H.backs i (by omega)).1 i (by rw [(H.backs i (by omega)).2]; omega))
 have HSU := Lib.hid (show ∀ i, (q.backsF i).2 = 0 → q.backsF (i + 1) = (q.backsF i).1.backF i from fun i h0 => by rw [backs_s, if_neg (by simpa using h0)])
 have HBAD := Lib.hid (show ∀ i, i ≤ N → (q.backsF i).2 ≠ 0 → q.heldN = 0 → q.commitF = q.backsF i from fun i hi hne h0 => by
  have h1 := backs_stop q hne (N - i)
  rw [show i + (N - i) = N by omega] at h1
  unfold QS.commitF
  rw [h0, if_neg (by omega), hN, h1, if_pos hne])
 have HEND := Lib.hid (show (q.backsF N).2 = 0 → q.heldN = 0 → q.commitF = ({ (q.backsF N).1 with a := (q.backsF N).1.a.commitF.1 }, (q.backsF N).1.a.commitF.2) from fun h1 h0 => by
  unfold QS.commitF
  rw [h0, if_neg (by omega), hN, if_neg (by rw [h1]; simp)])
 have HHE := Lib.hid (show 0 < q.heldN → q.commitF = (q, 16) from fun h0 => by
  unfold QS.commitF
  rw [if_pos h0])
 have KS := Lib.hid (fun (W : World) (hW : RX W pq rs (q.backsF N).1) => xscommit hW (H.backs N (by omega)).1 (by omega))
 have HF := Lib.hid (show ∀ (W : World) (i : Nat), i ≤ N → RX W pq rs (q.backsF i).1 → ∃ g cp, W.cell? ⟨pq, 1, none⟩ = some (.slice (some ⟨g, 0, none⟩) N cp) ∧ W.cell? ⟨pq, 0, none⟩ = some (.pointer (some ⟨rs, 0, none⟩)) from fun W i hi hW => by
  obtain ⟨g, cp, a, b, _⟩ := hW.fr
  rw [(H.backs i (by omega)).2, hN] at a
  exact ⟨g, cp, a, b⟩)
 rw [hN] at hl2
 clear h H hN
 unfold rp at *
 go_enter Tryz.func49, Tryz.ntmps49
 go_wp2_with fail
 refine KC.out.mono ?_
 rintro e w1 ⟨rfl, rfl⟩
 obtain ⟨hn, hhn⟩ : ∃ hn, q.heldN = hn := ⟨_, rfl⟩
 have HHN := Lib.hid hhn
 rw [hhn]
 clear hhn
 by_cases h0 : 0 < hn
 ·have h0I : (0 : Int) < (hn : Int) := by omega
  have HR := Lib.hid (HHE.out (by rw [HHN.out]; exact h0))
  go_wp2_with fail
  go_ret
  exact ⟨by rw [HR.out]; rfl, by rw [HR.out]; exact H0.out, Only.refl _ _⟩
 ·have h0I : ¬ (0 : Int) < (hn : Int) := by omega
  have HH0 := Lib.hid (show q.heldN = 0 by rw [HHN.out]; omega)
  go_wp2_with fail
  rename World => wq
  go_loopw [3, 4] (fun iv _ wr => ∃ i : Nat, i ≤ N ∧ iv = .int .i64 i ∧ Hid (RX wr pq rs (q.backsF i).1) ∧ Hid ((q.backsF i).2 = 0) ∧ Hid (Only [pq, rs] wq wr)) (fun iv _ _ => N - (intOf iv).toNat)
  case atStart => exact ⟨0, Nat.zero_le _, rfl, H0, Lib.hid rfl, Lib.hid (Only.refl _ _)⟩
  case round =>
   obtain ⟨i, hi, rfl, ZI, E0, OI⟩ := hrel
   obtain ⟨g, cp, p1, p0⟩ := HF.out _ i hi ZI.out
   by_cases h' : i < N
   ·have hI : (i : Int) < (N : Int) := by omega
    have ei : IntKind.i64.wrap ((i : Int) + 1) = ((i + 1 : Nat) : Int) := IntWalk.i64_in _ (by omega)
    have KB1 := Lib.hid (KB.out i h' wr ZI.out)
    have HS1 := Lib.hid (HSU.out i E0.out)
    have HB1 := Lib.hid (HBAD.out (i + 1) (by omega))
    rw [← HS1.out] at KB1
    obtain ⟨R, HR⟩ : ∃ R, Hid (q.backsF (i + 1) = R) := ⟨_, Lib.hid rfl⟩
    rw [HR.out] at KB1 HB1
    by_cases hr : R.2 = 0
    ·rw [hr] at KB1
     go_wp2_with fail
     refine KB1.out.mono ?_
     rintro e w5 ⟨rfl, z5, o5⟩
     have Z5 := Lib.hid (show RX w5 pq rs (q.backsF (i + 1)).1 from by rw [HR.out]; exact z5)
     have E5 := Lib.hid (show (q.backsF (i + 1)).2 = 0 from by rw [HR.out]; exact hr)
     have O5 := Lib.hid (OI.out.trans o5)
     clear z5 o5
     go_wp2_with fail
     go_roundw
     case rel => exact ⟨i + 1, by omega, by go_num, Z5, E5, O5⟩
     case measure => simp [intOf]; omega
    ·have hq : (R.2 == 0) = false := by rw [beq_eq_false_iff_ne]; exact hr
     have hq2 : (R.2 != 0) = true := by rw [bne_iff_ne]; exact hr
     have HC := Lib.hid (HB1.out hr HH0.out)
     go_wp2_with fail
     refine KB1.out.mono ?_
     rintro e w5 ⟨rfl, z5, o5⟩
     have Z5 := Lib.hid z5
     have O5 := Lib.hid (OI.out.trans o5)
     clear z5 o5
     go_wp2_with fail
     go_ret
     exact ⟨by rw [HC.out]; rfl, by rw [HC.out]; exact Z5.out, O5.out⟩
   ·obtain rfl : N = i := by omega
    have KS5 := Lib.hid (KS.out _ ZI.out)
    have HE := Lib.hid (HEND.out E0.out HH0.out)
    unfold rp at KS5
    go_wp2_with fail
    refine KS5.out.mono ?_
    rintro e w6 ⟨rfl, x6, o6⟩
    have X6 := Lib.hid x6
    have O6 := Lib.hid (OI.out.trans o6)
    clear x6 o6
    go_wp2_with fail
    go_ret
    exact ⟨by rw [HE.out]; rfl, by rw [HE.out]; exact X6.out, O6.out⟩
set_option maxRecDepth 100000 in
set_option maxHeartbeats 4000000 in
theorem xabort {w : World} {pq rs n Kz : Nat} {q : QS} (h : RX w pq rs q) (H : Hq q n Kz)  :
  Calls Tryz.prog 118 #[rp pq] w fun e w' => e = .returned (.tuple #[]) ∧ RX w' pq rs q.abortF ∧ Only [pq, rs] w w' := by
 have H0 := Lib.hid (show RX w pq rs { q with l := nilTo q.l 0 } from h)
 have hl2 := H.l2
 obtain ⟨N, hN⟩ : ∃ N, q.l.length = N := ⟨_, rfl⟩
 have HST := Lib.hid (show ∀ i, i < N → (nilTo q.l i).set i Fr.nil = nilTo q.l (i + 1) from fun i hi => nilTo_set q.l (by omega))
 have HLE := Lib.hid (show ∀ i, i ≤ N → (nilTo q.l i).length = N from fun i hi => by rw [nilTo_len q.l (by omega)]; exact hN)
 have HEND := Lib.hid (show ({ (({ q with l := nilTo q.l N }) : QS) with a := { q.a with now := oldS q.a.old } } : QS) = q.abortF from by
  unfold QS.abortF nilTo
  dsimp only
  rw [hN, List.drop_of_length_le (by omega), List.append_nil])
 rw [hN] at hl2
 clear h H hN
 unfold rp at *
 go_enter Tryz.func118, Tryz.ntmps118
 go_wp2_with fail
 rename World => wq
 go_loopw [2] (fun iv wr => ∃ i : Nat, i ≤ N ∧ iv = .int .i64 i ∧ Hid (RX wr pq rs { q with l := nilTo q.l i }) ∧ Hid (Only [pq, rs] wq wr)) (fun iv _ => N - (intOf iv).toNat)
 case atStart => exact ⟨0, Nat.zero_le _, rfl, H0, Lib.hid (Only.refl _ _)⟩
 case round =>
  obtain ⟨i, hi, rfl, XI, OI⟩ := hrel
  obtain ⟨g, cp, p1, p0, _⟩ := XI.out.fr
  rw [show ({ q with l := nilTo q.l i } : QS).l.length = N from HLE.out i hi] at p1
  by_cases h' : i < N
  ·have hI : (i : Int) < (N : Int) := by omega
   have ei : IntKind.i64.wrap ((i : Int) + 1) = ((i + 1 : Nat) : Int) := IntWalk.i64_in _ (by omega)
   have KS := Lib.hid (xset XI.out i (by show i < (nilTo q.l i).length; rw [HLE.out i hi]; exact h') Fr.nil)
   rw [show (({ q with l := nilTo q.l i } : QS).l.set i Fr.nil) = nilTo q.l (i + 1) from HST.out i h'] at KS
   unfold Fr.nil Fr.agg rp at KS
   dsimp only at KS
   go_wp2_with fail
   refine KS.out.mono ?_
   rintro e w5 ⟨rfl, x5, o5⟩
   have X5 := Lib.hid x5
   have O5 := Lib.hid (OI.out.trans o5)
   clear x5 o5
   go_wp2_with fail
   go_roundw
   case rel => exact ⟨i + 1, by omega, by go_num, X5, O5⟩
   case measure => simp [intOf]; omega
  ·obtain rfl : N = i := by omega
   have KA := Lib.hid (xsabort XI.out)
   unfold rp at KA
   go_wp2_with fail
   refine KA.out.mono ?_
   rintro e w6 ⟨rfl, x6, o6⟩
   have X6 := Lib.hid x6
   have O6 := Lib.hid (OI.out.trans o6)
   clear x6 o6
   go_wp2_with fail
   go_end0
   exact ⟨rfl, by rw [← HEND.out]; exact X6.out, O6.out⟩
end Go.Proofs.YtbelcgjbhpjnpaaGreat.Sh
