/- the document's pool by its contracts: victim. -/
import Derived.Test.YtbelcgjbhpjnpaaGreatQe
import Derived.Test.YtbelcgjbhpjnpaaGreatZe
set_option linter.all false
set_option linter.unusedVariables false
set_option linter.unusedSimpArgs false
namespace Go.Proofs.YtbelcgjbhpjnpaaGreat.Sh
open Go.RowKit Pk Dk Pg
attribute [local go_sem ↓] Go.wp_at_zero Go.wp_at_succ
theorem RPAt.setH {w : World} {pq rs : Nat} {fv nv ov : Value} {q : QS} (h : RPAt w pq rs fv nv ov q) (k : Nat) (hk : k < q.l.length) :
  w.frozen? ⟨pq, 2, none⟩ = false ∧ RPAt (w.setCell ⟨pq, 2, none⟩ (.int .i64 (k : Nat))) pq rs fv nv ov { q with hand := k } ∧ Only [pq] w (w.setCell ⟨pq, 2, none⟩ (.int .i64 (k : Nat))) := by
 have o : Only [pq] w (w.setCell ⟨pq, 2, none⟩ (.int .i64 (k : Nat))) := (Only.refl _ _).setCell (by simp) _
 refine ⟨h.hp.frozen 2 (by simp), ⟨h.hp.set_ 2 _, h.hf.only o (fun g hg hm => ?_), h.hs.only o (fun g hg hm => ?_), h.l1, h.l2, hk⟩, o⟩
 ·rw [List.mem_singleton.1 hm] at hg
  exact slc_ne h.hf h.hp (by decide) hg
 ·obtain ⟨t, cs, ht, B⟩ := h.hs.blk' g hg
  rw [List.mem_singleton.1 hm] at B
  rcases ht with rfl | rfl
  ·exact h.hp.ne_ B (by decide) rfl
  ·exact h.hp.ne_ B (by decide) rfl
theorem RPAt.nf {W : World} {pq rs g n cp fb : Nat} {nv ov : Value} {q : QS} {cs : Array Value} (H : RPAt W pq rs (.slice (some ⟨g, 0, none⟩) n cp) nv ov q) (hg : g ≠ fb) (B : Blk W fb 88 cs) : ∀ x ∈ pq :: rs :: (ownB (.slice (some ⟨g, 0, none⟩) n cp) ++ (ownB nv ++ ownB ov)), x ∉ [fb] := by
 intro x hx hm
 rw [List.mem_singleton.1 hm] at hx
 simp only [List.mem_cons, List.mem_append] at hx
 rcases hx with h | h | hx | hx
 ·exact H.hp.ne_ B (by decide) h.symm
 ·exact H.hs.hb.ne_ B (by decide) h.symm
 ·simp [ownB] at hx; omega
 ·obtain ⟨t, cs', ht, B'⟩ := H.hs.blk' fb (by simp; right; exact hx)
  rcases ht with rfl | rfl <;> exact B'.ne_ B (by decide) rfl
theorem spin_succ (m : Nat) (s : QS) : s.spin (m + 1) = if 0 < (frD s.l s.hand).held then s.turn.spin m else if (frD s.l s.hand).used = true then QS.spin m { s.turn with l := s.l.set s.hand { frD s.l s.hand with used := false } } else (s.turn, (s.hand : Int)) := rfl
set_option maxRecDepth 100000 in
set_option maxHeartbeats 4000000 in
theorem dvictim_any {w : World} {pq rs Kz : Nat} {q : QS} (h : RX w pq rs q) (hb : Fb q.l Kz) :
  Calls Tryz.prog 172 #[rp pq] w fun e w' => e = .returned (.int .i64 q.victimF.2) ∧ RX w' pq rs q.victimF.1 ∧ Only [pq, rs] w w' := by
 have H0 := Lib.hid h
 obtain ⟨fv, nv, ov, h⟩ := h
 obtain ⟨g, cp, rfl⟩ := h.fs
 have p1 := h.p1
 have l2 := h.l2
 have l1 := h.l1
 have HF := Lib.hid h.frs
 have hlh := h.lh
 obtain ⟨N, hN⟩ : ∃ N, q.l.length = N := ⟨_, rfl⟩
 have HN := Lib.hid hN
 rw [hN] at p1 l2 l1 hlh
 have e2N : IntKind.i64.wrap (2 * (N : Int)) = 2 * (N : Int) := IntWalk.i64_in _ (by omega)
 obtain ⟨Q, hQ⟩ : ∃ Q, q.victimF = Q := ⟨_, rfl⟩
 have HQ := Lib.hid hQ
 rw [hQ]
 have HV1 := Lib.hid (show ∀ (i : Nat) (f : Fr), (∀ (j : Nat) (a : Fr), j < i → q.l[j]? = some a → 0 ≤ a.page) → q.l[i]? = some f → f.page < 0 → Q = (q, (i : Int)) from fun i f ha hf e => by
  have hx : ixF (fun f => decide (f.page < 0)) q.l = i := ixF_hit hf (by simpa using e) (fun j a hj hja => by have := ha j a hj hja; simp only [decide_eq_false_iff_not]; omega)
  rw [← hQ]
  unfold QS.victimF
  rw [hx, if_pos (by omega)])
 have HV2 := Lib.hid (show (∀ (j : Nat) (a : Fr), j < N → q.l[j]? = some a → 0 ≤ a.page) → Q = q.spin (2 * N + 1) from fun ha => by
  have hx : ixF (fun f => decide (f.page < 0)) q.l = -1 := ixF_miss (fun j a hj => by
   have := ha j a (by rw [← hN]; exact (List.getElem?_eq_some_iff.1 hj).1) hj
   simp only [decide_eq_false_iff_not]
   omega)
  rw [← hQ]
  unfold QS.victimF
  rw [hx, if_neg (by omega), hN])
 have HB := Lib.hid hb
 have HLH := Lib.hid hlh
 clear h hN hQ hb hlh
 unfold rp
 go_enter Tryz.func172, Tryz.ntmps172
 go_wp2_with fail
 go_loopw [3] (fun iv wr => ∃ i : Nat, i ≤ N ∧ iv = .int .i64 i ∧ Hid (∀ (j : Nat) (a : Fr), j < i → q.l[j]? = some a → 0 ≤ a.page) ∧ wr = w) (fun iv _ => N - (intOf iv).toNat)
 case atStart => exact ⟨0, Nat.zero_le _, rfl, Lib.hid (fun j a hj => absurd hj (Nat.not_lt_zero j)), rfl⟩
 case round =>
  obtain ⟨i, hi, rfl, HA, rfl⟩ := hrel
  by_cases h' : i < N
  ·have hI : (i : Int) < (N : Int) := by omega
   obtain ⟨f, HG⟩ : ∃ f, Hid (q.l[i]? = some f) := ⟨_, Lib.hid (List.getElem?_eq_getElem (by rw [HN.out]; exact h'))⟩
   obtain ⟨c0, c1, c2, c3, c4⟩ := HF.out i f HG.out
   have ei : IntKind.i64.wrap ((i : Int) + 1) = ((i + 1 : Nat) : Int) := IntWalk.i64_in _ (by omega)
   by_cases e1 : f.page < 0
   ·have HR := Lib.hid (HV1.out i f HA.out HG.out e1)
    go_wp2_with fail
    go_ret
    exact ⟨by rw [HR.out]; rfl, by rw [HR.out]; exact H0.out, Only.refl _ _⟩
   ·have HS2 := Lib.hid (show ∀ (j : Nat) (a : Fr), j < i + 1 → q.l[j]? = some a → 0 ≤ a.page from fun j a hj ha => by
     by_cases hji : j = i
     ·subst hji
      have := HG.out.symm.trans ha
      injection this with this
      rw [← this]; omega
     ·exact HA.out j a (by omega) ha)
    go_wp2_with fail
    go_roundw
    case rel => exact ⟨i + 1, by omega, by go_num, HS2, by first | trivial | rfl⟩
    case measure => simp [intOf]; omega
  ·obtain rfl : N = i := by omega
   have HQS := Lib.hid (HV2.out HA.out)
   go_wp2_with fail
   clear p1
   rename World => wq
   go_loopw [4] (fun kv wz => ∃ (m : Nat) (s : QS), m ≤ 2 * N + 1 ∧ kv = .int .i64 m ∧ Hid (RX wz pq rs s) ∧ Hid (s.l.length = N ∧ s.hand < N ∧ Fb s.l Kz) ∧ Hid (Q = s.spin (2 * N + 1 - m)) ∧ Hid (Only [pq, rs] wq wz)) (fun kv _ => 2 * N + 1 - (intOf kv).toNat)
   case atStart => exact ⟨0, q, by omega, rfl, H0, Lib.hid ⟨HN.out, HLH.out, HB.out⟩, HQS, Lib.hid (Only.refl _ _)⟩
   case round =>
    obtain ⟨m, s, hm, rfl, HX, HS, HSP, HO⟩ := hrel
    obtain ⟨fv', nv', ov', A⟩ := HX.out
    obtain ⟨g, cp, rfl⟩ := A.fs
    obtain ⟨sl, slh, sb⟩ := HS.out
    have p1 := A.p1
    rw [sl] at p1
    by_cases hmN : m < 2 * N + 1
    ·have hmI : (m : Int) ≤ 2 * (N : Int) := by omega
     have em : IntKind.i64.wrap ((m : Int) + 1) = ((m + 1 : Nat) : Int) := IntWalk.i64_in _ (by omega)
     have hfr := frD_get (l := s.l) (k := s.hand) (by omega)
     obtain ⟨f, hfe⟩ : ∃ f, frD s.l s.hand = f := ⟨_, rfl⟩
     have hfb := sb _ (List.mem_of_getElem? hfr)
     rw [hfe] at hfr hfb
     have hsp := HSP.out
     rw [show 2 * N + 1 - m = (2 * N - m) + 1 by omega, spin_succ, hfe] at hsp
     have hturn : s.turn.l = s.l ∧ s.turn.hand = (s.hand + 1) % N ∧ s.turn.a = s.a := ⟨rfl, by show (s.hand + 1) % s.l.length = _; rw [sl], rfl⟩
     obtain ⟨c0, c1, c2, c3, c4⟩ := A.frs s.hand f hfr
     obtain ⟨hd, hhd⟩ : ∃ hd, s.hand = hd := ⟨_, rfl⟩
     have p2 := A.p2
     rw [hhd] at c0 c1 c2 c3 c4 p2 slh
     have hhI : (hd : Int) < (N : Int) := by omega
     obtain ⟨hd2, hhd2⟩ : ∃ h2, (hd + 1) % N = h2 := ⟨_, rfl⟩
     have hd2l : hd2 < N := by rw [← hhd2]; exact Nat.mod_lt _ (by omega)
     have hmod : ((hd : Int) + 1).tmod (N : Int) = (hd2 : Int) := by rw [← hhd2, show ((hd : Int) + 1) = ((hd + 1 : Nat) : Int) from by omega]; exact (Int.ofNat_tmod _ _).symm
     have m1 : IntKind.i64.wrap ((hd : Int) + 1) = (hd : Int) + 1 := IntWalk.i64_in _ (by omega)
     have m2 : IntKind.i64.wrap (hd2 : Int) = (hd2 : Int) := IntWalk.i64_in _ (by omega)
     have hN0 : ¬ N = 0 := by omega
     obtain ⟨fb, hfbe⟩ : ∃ fb, wr.heap.size = fb := ⟨_, rfl⟩
     have BF := Blk.new wr 88 #[.int .i64 f.page, .string f.pay, .int .i64 f.held, .bool f.dirty, .bool f.used]
     have O1 := belowAlloc (Below.refl wr.heap.size wr) (.cells #[.int .i64 f.page, .string f.pay, .int .i64 f.held, .bool f.dirty, .bool f.used] 88)
     have hgl := A.hf.lt g (by simp [ownB])
     have hpl := A.hp.lt
     have A1 := (A.below O1).below (Below.refl _ _).drew
     have B1 := BF.drew
     have o1 := (Only.of_below (S := [pq, rs]) O1).drew
     obtain ⟨w1, hw1⟩ : ∃ w1, wr.alloc (.cells #[.int .i64 f.page, .string f.pay, .int .i64 f.held, .bool f.dirty, .bool f.used] 88) = w1 := ⟨_, rfl⟩
     rw [hw1] at A1 B1 o1
     rw [hfbe] at B1
     obtain ⟨z2, A2, o2⟩ := A1.setH hd2 (by rw [sl]; exact hd2l)
     have B2 := B1.only o2 (by simp; omega)
     have P1 := Lib.hid (show w1.drew.cell? ⟨pq, 1, none⟩ = some (.slice (some ⟨g, 0, none⟩) N cp) from by rw [← sl]; exact A1.p1)
     have P2 := Lib.hid (show w1.drew.cell? ⟨pq, 2, none⟩ = some (.int .i64 (hd : Nat)) from by rw [← hhd]; exact A1.p2)
     have Z2 := Lib.hid z2
     have P2b := Lib.hid (show w1.cell? ⟨pq, 2, none⟩ = some (.int .i64 (hd : Nat)) from P2.out)
     have Z2b := Lib.hid (show w1.frozen? ⟨pq, 2, none⟩ = false from z2)
     have Q1 := Lib.hid (show (w1.drew.setCell ⟨pq, 2, none⟩ (.int .i64 (hd2 : Nat))).cell? ⟨pq, 1, none⟩ = some (.slice (some ⟨g, 0, none⟩) N cp) from by rw [← sl]; exact A2.p1)
     have O2 := Lib.hid (HO.out.trans (o1.trans (o2.mono (fun x hx _ => by simp at hx; simp [hx]))))
     have A2 := Lib.hid A2
     have B2 := Lib.hid B2
     have HG := Lib.hid (show g ≠ fb from by omega)
     have HFB := Lib.hid hfbe
     have HSL := Lib.hid sl
     have HHD := Lib.hid hhd
     have HHD2 := Lib.hid hhd2
     have HSPN := Lib.hid hsp
     have HFV := Lib.hid hfb
     have HSB := Lib.hid sb
     have hW := Lib.hid hw1
     clear A A1 B1 BF O1 o1 o2 z2 hsp hfe hfr hturn hgl hpl sl sb hhd hhd2 hfb hfbe hw1
     go_wp2_with fail
     rw [HFB.out, hW.out]
     clear p1 p2 c0 c1 c2 c3 c4
     refine wp_region_held_drew (S := fun W' => W'.cell? ⟨pq, 1, none⟩ = some (.slice (some ⟨g, 0, none⟩) N cp)) (by kernel_rfl) (P1.out) (fun hHeld => ?_)
     refine zpl [(0,47),(1,48),(2,49),(3,50),(6,53),(7,54),(8,55),(9,56),(10,57)] ?_
     iterate 9 (refine ztp (v := ?_) rfl (by kernel_rfl) (fun _ _ _ h => h) (by assumption) ?_ ?_; rotate_left; (·intro w hS; (try dsimp only at hS); go_simp; try with_reducible rfl); try simp only [Act.put, pa, pb, pc])
     refine zpe ?_
     refine wpAnyH_ready (rs := [4]) (by kernel_rfl) (by simp) ?_
     refine AllReadyH.cons (o := ⟨some 51, _, _, _, _, _⟩) rfl (fun K hK => ?_) AllReadyH.nil
     go_simp
     have p2 := P2.out
     have p2b := P2b.out
     go_simp
     clear p2 p2b
     refine hK.out _ _ (P1.out) (fun hHeld => ?_)
     try simp only [Act.put, pa, pb, pc]
     refine zpl [(5,52),(11,58),(12,59),(13,60)] ?_
     iterate 4 (refine ztp (v := ?_) rfl (by kernel_rfl) (fun _ _ _ h => h) (by assumption) ?_ ?_; rotate_left; (·intro w hS; (try dsimp only at hS); go_simp; try with_reducible rfl); try simp only [Act.put, pa, pb, pc])
     refine zpe ?_
     refine wpAnyH_ready (rs := [14]) (by kernel_rfl) (by simp) ?_
     refine AllReadyH.cons (o := ⟨none, _, _, _, _, _⟩) rfl (fun K hK => ?_) AllReadyH.nil
     go_simp
     have z2 := Z2.out
     have p2 := P2.out
     have z2b := Z2b.out
     have p2b := P2b.out
     go_simp
     clear p2 z2 p2b z2b
     refine hK.out _ _ (Q1.out) (fun hHeld => ?_)
     try simp only [Act.put, pa, pb, pc]
     refine wpAnyH_done (by kernel_rfl) ?_ _
     have hdr : w1.drew.setCell ⟨pq, 2, none⟩ (.int .i64 (hd2 : Nat)) = (w1.setCell ⟨pq, 2, none⟩ (.int .i64 (hd2 : Nat))).drew := rfl
     rw [hdr] at A2 B2 O2 Q1
     clear hdr
     generalize (w1.setCell ⟨pq, 2, none⟩ (.int .i64 (hd2 : Nat))).drew = w2 at *
     have HTU := Lib.hid (show s.turn = { s with hand := hd2 } from by unfold QS.turn; rw [HSL.out, HHD.out, HHD2.out])
     have b0 := B2.out.cell_some (i := 0) rfl
     have b1 := B2.out.cell_some (i := 1) rfl
     have b2 := B2.out.cell_some (i := 2) rfl
     have b3 := B2.out.cell_some (i := 3) rfl
     have b4 := B2.out.cell_some (i := 4) rfl
     have hfv := HFV.out
     have HSZ := Lib.hid HO.out.size
     clear P1 P2 Z2 P2b Z2b Q1 HO HX
     by_cases h0 : 0 < f.held
     ·have hsp := HSPN.out
      rw [if_pos h0, HTU.out] at hsp
      have HSP2 := Lib.hid (show Q = ({ s with hand := hd2 } : QS).spin (2 * N + 1 - (m + 1)) from by rw [show 2 * N + 1 - (m + 1) = 2 * N - m by omega]; exact hsp)
      have HX2 := Lib.hid (show RX w2 pq rs { s with hand := hd2 } from ⟨_, _, _, A2.out⟩)
      have HS2 := Lib.hid (show ({ s with hand := hd2 } : QS).l.length = N ∧ ({ s with hand := hd2 } : QS).hand < N ∧ Fb ({ s with hand := hd2 } : QS).l Kz from ⟨HSL.out, hd2l, HSB.out⟩)
      have h0' : ¬ f.held = 0 := by omega
      clear hsp hfv HS HSP HSPN
      go_wp2_with fail
      go_roundw
      case rel => exact ⟨m + 1, _, by omega, by go_num, HX2, HS2, HSP2, O2⟩
      case measure => simp [intOf]; omega
     ·have h0' : f.held = 0 := by omega
      have hsp := HSPN.out
      rw [if_neg h0, HTU.out] at hsp
      have h0p : (f.held = 0) = True := by rw [h0']; simp
      have h0b : (f.held == 0) = true := by rw [h0']; rfl
      clear hfv HS HSP HSPN h0 h0'
      cases hu : f.used with
      | false =>
       rw [hu, if_neg (by simp)] at hsp
       have HR := Lib.hid hsp
       have HHI := Lib.hid HHD.out
       rw [hu] at b4
       clear hsp hu
       go_wp2_with fail
       go_ret
       exact ⟨by rw [HR.out, HHI.out]; rfl, by rw [HR.out]; exact ⟨_, _, _, A2.out⟩, O2.out⟩
      | true =>
       rw [hu, if_pos rfl, HHD.out] at hsp
       have HSP2 := Lib.hid (show Q = ({ s with hand := hd2, l := s.l.set hd { f with used := false } } : QS).spin (2 * N + 1 - (m + 1)) from by rw [show 2 * N + 1 - (m + 1) = 2 * N - m by omega]; exact hsp)
       rw [hu] at b4
       have z4 := B2.out.frozen 4 (by simp)
       have o3 := (Only.refl [fb] w2).setCell (p := ⟨fb, 4, none⟩) (by simp) (.bool false)
       have A3 := A2.out.only o3 (A2.out.nf HG.out B2.out)
       have B3 := B2.out.set_ 4 (.bool false)
       have KS := Lib.hid (dset_any A3 hd (by show hd < s.l.length; rw [HSL.out]; omega) { f with used := false })
       have d0 := B3.cell_some (i := 0) rfl
       have d1 := B3.cell_some (i := 1) rfl
       have d2 := B3.cell_some (i := 2) rfl
       have d3 := B3.cell_some (i := 3) rfl
       have d4 := B3.cell_some (i := 4) rfl
       have O3 := Lib.hid (O2.out.trans_of o3 (fun x hx hlt => by simp at hx; subst hx; have := HFB.out; have := HSZ.out; omega))
       have HFF := Lib.hid (HFV.out)
       clear hsp hu A3 B3 o3
       unfold rp Fr.agg at KS
       go_wp2_with fail
       refine KS.out.mono ?_
       rintro e w4 ⟨rfl, fv4, A4, o4⟩
       have HX2 := Lib.hid (show RX w4 pq rs { s with hand := hd2, l := s.l.set hd { f with used := false } } from ⟨_, _, _, A4⟩)
       have HS2 := Lib.hid (show ({ s with hand := hd2, l := s.l.set hd { f with used := false } } : QS).l.length = N ∧ ({ s with hand := hd2, l := s.l.set hd { f with used := false } } : QS).hand < N ∧ Fb ({ s with hand := hd2, l := s.l.set hd { f with used := false } } : QS).l Kz from ⟨by show (s.l.set hd _).length = N; rw [List.length_set]; exact HSL.out, hd2l, HSB.out.set hd HFF.out⟩)
       have O4 := Lib.hid (O3.out.trans (o4.mono (fun x hx _ => by simp at hx; simp [hx])))
       clear A4 o4
       go_wp2_with fail
       go_roundw
       case rel => exact ⟨m + 1, _, by omega, by go_num, HX2, HS2, HSP2, O4⟩
       case measure => simp [intOf]; omega
    ·obtain rfl : m = 2 * N + 1 := by omega
     have hsp := HSP.out
     rw [Nat.sub_self] at hsp
     have HR := Lib.hid (show Q = (s, -1) from hsp)
     have hmI : ¬ ((2 * N + 1 : Nat) : Int) ≤ 2 * (N : Int) := by omega
     clear hsp
     go_wp2_with fail
     go_ret
     exact ⟨by rw [HR.out]; rfl, by rw [HR.out]; exact HX.out, HO.out⟩
end Go.Proofs.YtbelcgjbhpjnpaaGreat.Sh
