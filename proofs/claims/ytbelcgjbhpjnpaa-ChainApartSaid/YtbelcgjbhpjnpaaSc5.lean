/- chain by its contracts: Put. -/
import Derived.Test.YtbelcgjbhpjnpaaSc4
namespace Go.Proofs.Ytbelcgjbhpjnpaa.Sh
open Go.RowKit Pk Dk Pg
attribute [local go_sem ↓] Go.wp_at_zero Go.wp_at_succ exec_app
def linkL (v : List UInt8) (i : Nat) (next : Int) : List UInt8 := twoL (next + 1).toNat ++ twoL (pieceL v i).length ++ pieceL v i
def St.dropAll (a : St) : List Int → St
  | [] => a
  | p :: l => (a.dropF p).1.dropAll l
theorem St.dropAll_cons (a : St) (p : Int) (l : List Int) : a.dropAll (p :: l) = (a.dropF p).1.dropAll l := rfl
/-- a chain's pages made, the last one first -/
def St.putC (v : List UInt8) : Nat → St → Int → List Int → St × Int × Int
  | 0, a, next, _ => (a, next, 0)
  | i + 1, a, next, made =>
    if (a.newF (linkL v i next)).2.2 ≠ 0 then ((a.newF (linkL v i next)).1.dropAll made, 0, (a.newF (linkL v i next)).2.2)
    else St.putC v i (a.newF (linkL v i next)).1 (a.newF (linkL v i next)).2.1 (made ++ [(a.newF (linkL v i next)).2.1])
def St.cputF (a : St) (v : List UInt8) : St × Int × Int := if 1024 < v.length then (a, 0, 4) else St.putC v (cneedF v.length).toNat a (-1) []
theorem newF_bd (a : St) (p : List UInt8) : 0 ≤ (a.newF p).2.1 ∧ (a.newF p).2.1 ≤ 511 := by
  unfold St.newF
  split
  · exact ⟨by show (0 : Int) ≤ 0; omega, by show (0 : Int) ≤ 511; omega⟩
  · split
    · exact ⟨by show (0 : Int) ≤ 0; omega, by show (0 : Int) ≤ 511; omega⟩
    · exact ⟨by show (0 : Int) ≤ (a.slot : Nat); omega, by show ((a.slot : Nat) : Int) ≤ 511; omega⟩
set_option maxRecDepth 100000 in
set_option maxHeartbeats 4000000 in
theorem cput_any {w : World} {pb sb : Nat} {F : List Nat} {a : St} {k : Int} (h : AtQ w pb sb F a k) (v : ByteArray) (hv : v.size ≤ 1024) (hk : k ≤ 999999900) :
    Calls Try.prog 9 #[pp pb, .string v] w fun e w' => e = .returned (.tuple #[.int .i64 (a.cputF v.data.toList).2.1, .int .i64 (a.cputF v.data.toList).2.2]) ∧ PostQ w w' pb sb F (a.cputF v.data.toList).1 (k + 20) := by
  have hvl : v.data.toList.length = v.size := by simp
  obtain ⟨R, hR⟩ : ∃ R, a.cputF v.data.toList = R := ⟨_, rfl⟩
  rw [hR]
  unfold St.cputF at hR
  rw [if_neg (by omega), hvl] at hR
  have hn1 : 1 ≤ cneedF v.size ∧ cneedF v.size ≤ 5 := by unfold cneedF; omega
  have hn2 : 228 * (cneedF v.size - 1) ≤ v.size := by unfold cneedF; omega
  have KN := Lib.hid (cneed_any (v.size : Nat) (by omega))
  obtain ⟨m, hm⟩ := Int.eq_ofNat_of_zero_le (show 0 ≤ cneedF v.size by omega)
  rw [hm] at hn1 hn2 KN hR
  rw [show ((m : Nat) : Int).toNat = m by omega] at hR
  have HR := Lib.hid hR
  have O0 := Lib.hid (belowAlloc (Below.refl w.heap.size w) (.cells #[.string v] 9))
  have B0 := Lib.hid (Blk.new w 9 #[.string v])
  have q0 := B0.out.cell_some (i := 0) rfl
  have HQ := Lib.hid (h.below O0.out)
  have HLT := Lib.hid h.lt
  have KNEW := Lib.hid (fun (W : World) (F' : List Nat) (b : St) (j : Int) (hW : AtQ W pb sb F' b j) (s : ByteArray) (hs : s.size ≤ 9223372036854775807) (hj : j ≤ 999999990) => qnew_any hW s hs hj)
  have KD := Lib.hid (fun (W : World) (F' : List Nat) (b : St) (j : Int) (hW : AtQ W pb sb F' b j) (q : Int) => qdrop_any hW q)
  have KP := Lib.hid (fun (W : World) (hq : W.cell? ⟨w.heap.size, 0, none⟩ = some (.string v)) (i : Nat) (hi : 228 * i ≤ v.size) => piece_any v hv hq i hi)
  have KT := Lib.hid two_any
  have hm1 : IntKind.i64.wrap ((m : Int) - 1) = (m : Int) - 1 := IntWalk.i64_in _ (by omega)
  clear h hR
  unfold pp at *
  go_enter Try.func9, Try.ntmps9
  go_wp2_with fail
  refine (KN.out _).mono ?_
  rintro e w1 ⟨rfl, rfl⟩
  go_wp2_with fail
  go_loopw [7, 8, 9] (fun mv nv iv wr => ∃ (j : Nat) (b : St) (nx : Nat) (made : List Int) (F' : List Nat), j ≤ m ∧ iv = .int .i64 ((j : Int) - 1) ∧ nv = .int .i64 ((nx : Int) - 1) ∧ nx ≤ 512 ∧ made.length = m - j ∧ Slc wr 3 1 mv made.length (nvs' made) ∧ Hid (St.putC v.data.toList j b ((nx : Int) - 1) made = R) ∧
      Hid (AtQ wr pb sb F' b (k + 4 * ((m : Int) - j)) ∧ Only F w wr ∧ (∀ g ∈ F', g ∈ F ∨ w.heap.size ≤ g) ∧ (∀ g ∈ ownB mv, w.heap.size ≤ g ∧ g ∉ F') ∧ Blk wr w.heap.size 9 #[.string v] ∧ w.heap.size ∉ F')) (fun _ _ iv _ => (intOf iv + 1).toNat)
  case atStart => exact ⟨m, a, 0, [], F, Nat.le_refl _, rfl, rfl, by omega, by simp, Slc.nil _ _ _, HR, Lib.hid ⟨by rw [show k + 4 * ((m : Int) - m) = k by omega]; exact HQ.out, .of_below O0.out, fun g hg => .inl hg, by simp [ownB], B0.out, fun hF => by have := HLT.out _ hF; omega⟩⟩
  case round =>
    obtain ⟨j, b, nx, made, F', hj, rfl, rfl, hnx, hml, S, HW, HA⟩ := hrel
    obtain ⟨VM, vm, rfl⟩ := slc_val S
    by_cases h0 : 0 < j
    · obtain ⟨i, rfl⟩ : ∃ i, j = i + 1 := ⟨j - 1, by omega⟩
      have hz : ((i + 1 : Nat) : Int) - 1 = (i : Nat) := by omega
      rw [hz]
      have q1 := HA.out.2.2.2.2.1.cell_some (i := 0) rfl
      have hi2 : 228 * i ≤ v.size := by omega
      have K1 := Lib.hid (KP.out wr q1 i hi2)
      have hpl : (pieceL v.data.toList i).length ≤ 228 := by unfold pieceL; rw [List.length_take]; omega
      have HW2 := HW.out
      unfold St.putC at HW2
      have hlk : linkL v.data.toList i ((nx : Int) - 1) = (((⟨(twoL nx).toArray⟩ : ByteArray) ++ ⟨(twoL (pieceL v.data.toList i).length).toArray⟩) ++ ⟨(pieceL v.data.toList i).toArray⟩ : ByteArray).data.toList := by
        unfold linkL; rw [show ((nx : Int) - 1 + 1).toNat = nx by omega]; simp
      rw [hlk] at HW2
      have hps : (⟨(pieceL v.data.toList i).toArray⟩ : ByteArray).size = (pieceL v.data.toList i).length := by show (pieceL v.data.toList i).toArray.size = _; simp
      have hts : ∀ x, (⟨(twoL x).toArray⟩ : ByteArray).size = 2 := fun x => rfl
      have hss : (((⟨(twoL nx).toArray⟩ : ByteArray) ++ ⟨(twoL (pieceL v.data.toList i).length).toArray⟩) ++ ⟨(pieceL v.data.toList i).toArray⟩ : ByteArray).size ≤ 9223372036854775807 := by
        rw [ByteArray.size_append, ByteArray.size_append, hts, hts, hps]; omega
      have K2 := Lib.hid (KT.out nx (by omega))
      have K3 := Lib.hid (KT.out (pieceL v.data.toList i).length (by omega))
      have K4 := Lib.hid (fun (W : World) (hW : AtQ W pb sb F' b (k + 4 * ((m : Int) - (i + 1 : Nat)))) => KNEW.out W F' b _ hW _ hss (by omega))
      have u1 : IntKind.i64.wrap (nx : Int) = (nx : Int) := IntWalk.i64_in _ (by omega)
      have hbd := newF_bd b ((((⟨(twoL nx).toArray⟩ : ByteArray) ++ ⟨(twoL (pieceL v.data.toList i).length).toArray⟩) ++ ⟨(pieceL v.data.toList i).toArray⟩ : ByteArray).data.toList)
      have t1 := hts nx
      have t2 := hts (pieceL v.data.toList i).length
      generalize (⟨(twoL nx).toArray⟩ : ByteArray) = T1 at *
      generalize (⟨(twoL (pieceL v.data.toList i).length).toArray⟩ : ByteArray) = T2 at *
      generalize (⟨(pieceL v.data.toList i).toArray⟩ : ByteArray) = PC at *
      have z1 : ¬ 9223372036854775807 < T1.size + T2.size := by omega
      have z2 : ¬ 9223372036854775807 < (T1 ++ T2).size + PC.size := by rw [ByteArray.size_append]; omega
      clear hlk hts hss
      generalize b.newF (T1 ++ T2 ++ PC).data.toList = D at *
      obtain ⟨D1, D2, D3⟩ := D
      dsimp only at *
      have HS := Lib.hid (show ∀ w4 w5 F5, Below wr.heap.size wr w4 → AtQ w5 pb sb F5 D1 (k + 4 * ((m : Int) - (i + 1 : Nat)) + 4) → Only F' w4 w5 → (∀ g ∈ F5, g ∈ F' ∨ w4.heap.size ≤ g) →
          AtQ w5 pb sb F5 D1 (k + 4 * ((m : Int) - (i + 1 : Nat)) + 4) ∧ Only F w w5 ∧ (∀ g ∈ F5, g ∈ F ∨ w.heap.size ≤ g) ∧ Slc w5 3 1 (.slice VM made.length vm) made.length (nvs' made) ∧ (∀ g ∈ ownB (.slice VM made.length vm), w.heap.size ≤ g ∧ g ∉ F5) ∧ Blk w5 w.heap.size 9 #[.string v] ∧ w.heap.size ∉ F5 from fun w4 w5 F5 hb A5 o5 f5 => by
        obtain ⟨a1, a2, a3, a4, a5, a6⟩ := HA.out
        have s4 := S.below hb
        have b4 := a5.below hb a5.lt
        have hw4 : w.heap.size ≤ w4.heap.size := Nat.le_trans a2.size hb.size
        refine ⟨A5, (a2.trans (.of_below hb)).trans_of o5 (fun g hg hlt => (a3 g hg).elim id (fun h => by omega)), fun g hg => (f5 g hg).elim (a3 g) (fun h => .inr (by omega)), s4.only o5 (fun g hg => (a4 g hg).2), fun g hg => ⟨(a4 g hg).1, fun hF => (f5 g hF).elim (a4 g hg).2 (fun h => by have := s4.lt g hg; omega)⟩, b4.only o5 a6, fun hF => (f5 _ hF).elim a6 (fun h => by have := b4.lt; omega)⟩)
      by_cases hd : D3 = 0
      · subst hd
        rw [if_neg (by simp)] at HW2
        obtain ⟨d2, rfl⟩ := Int.eq_ofNat_of_zero_le hbd.1
        have HW3 := Lib.hid HW2
        clear HW2
        go_wp2_with fail
        refine K1.out.mono ?_
        rintro e w2 ⟨rfl, rfl⟩
        go_wp2_with fail
        refine (K2.out _).mono ?_
        rintro e w3 ⟨rfl, hb3⟩
        have H3 := Lib.hid hb3
        go_wp2_with fail
        refine (K3.out _).mono ?_
        rintro e w4 ⟨rfl, hb4⟩
        have H4 := Lib.hid (bstep H3.out hb4)
        clear hb3 hb4
        go_wp2_with fail
        refine (K4.out _ (HA.out.1.below H4.out)).mono ?_
        rintro e w5 ⟨rfl, F5, A5, o5, f5⟩
        have H5 := Lib.hid (HS.out w4 w5 F5 H4.out A5 o5 f5)
        clear A5 o5 f5
        obtain ⟨v', w6, ea, S6, ow, fr⟩ := append_one (P := Try.prog) H5.out.2.2.2.1 34 34 (.int .i64 0) 8 Try.underlying34 info_int2 rfl (.int .i64 (d2 : Nat)) rfl (by unfold maxLen; omega) (by omega)
        obtain ⟨V6, c6, rfl⟩ := slc_val S6
        have H6 := Lib.hid (show Slc w6 3 1 (.slice V6 (made.length + 1) c6) (made ++ [(d2 : Int)]).length (nvs' (made ++ [(d2 : Int)])) ∧ AtQ w6 pb sb F5 D1 (k + 4 * ((m : Int) - i)) ∧ Only F w w6 ∧ (∀ g ∈ F5, g ∈ F ∨ w.heap.size ≤ g) ∧ (∀ g ∈ ownB (.slice V6 (made.length + 1) c6), w.heap.size ≤ g ∧ g ∉ F5) ∧ Blk w6 w.heap.size 9 #[.string v] ∧ w.heap.size ∉ F5 from by
          obtain ⟨a1, a2, a3, a4, a5, a6, a7⟩ := H5.out
          refine ⟨by rw [List.length_append, nvs'_append]; exact S6, (a1.only ow (fun g hF hg => (a5 g hg).2 hF)).le (by omega), a2.trans_of ow (fun g hg hlt => by have := (a5 g hg).1; omega), a3, fun g hg => ?_, a6.only ow (fun hg => slc_ne a4 a6 (by decide) hg), a7⟩
          rcases fr g hg with h | h
          · exact a5 g h
          · exact ⟨by have := a2.size; omega, fun hF => by have := a1.lt g hF; omega⟩)
        rw [hml] at ea
        have EA := Lib.hid ea
        clear ea S6 ow fr
        go_wp2_with fail
        rw [EA.out]
        go_wp2_with fail
        go_roundw
        case rel => exact ⟨i, D1, d2 + 1, made ++ [(d2 : Int)], F5, by omega, by go_num, by simp, by omega, by rw [List.length_append, hml, List.length_singleton]; omega, by have := H6.out.1; rw [hml] at this; exact this, by rw [show ((d2 + 1 : Nat) : Int) - 1 = (d2 : Nat) by omega]; exact HW3, Lib.hid ⟨H6.out.2.1, H6.out.2.2.1, H6.out.2.2.2.1, by have := H6.out.2.2.2.2.1; rw [hml] at this; exact this, H6.out.2.2.2.2.2.1, H6.out.2.2.2.2.2.2⟩⟩
        case measure => simp [intOf] <;> omega
      · rw [if_pos hd] at HW2
        subst HW2
        have hq : (D3 != 0) = true := by rw [bne_iff_ne]; exact hd
        have hq2 : (D3 == 0) = false := by rw [beq_eq_false_iff_ne]; exact hd
        go_wp2_with fail
        refine K1.out.mono ?_
        rintro e w2 ⟨rfl, rfl⟩
        go_wp2_with fail
        refine (K2.out _).mono ?_
        rintro e w3 ⟨rfl, hb3⟩
        have H3 := Lib.hid hb3
        go_wp2_with fail
        refine (K3.out _).mono ?_
        rintro e w4 ⟨rfl, hb4⟩
        have H4 := Lib.hid (bstep H3.out hb4)
        clear hb3 hb4
        go_wp2_with fail
        refine (K4.out _ (HA.out.1.below H4.out)).mono ?_
        rintro e w5 ⟨rfl, F5, A5, o5, f5⟩
        have H5 := Lib.hid (HS.out w4 w5 F5 H4.out A5 o5 f5)
        clear A5 o5 f5
        have hml2 : (made.length : Int) ≤ 5 := by omega
        have HM := Lib.hid hml
        rw [← hml]
        clear hml
        go_wp2_with fail
        go_loopw [52] (fun tv wq => ∃ (t : Nat) (b' : St), t ≤ made.length ∧ tv = .int .i64 t ∧ Hid (b'.dropAll (made.drop t) = D1.dropAll made) ∧ Hid (AtQ wq pb sb F5 b' (k + 4 * ((m : Int) - (i + 1 : Nat)) + 4) ∧ Only F w wq ∧ Slc wq 3 1 (.slice VM made.length vm) made.length (nvs' made))) (fun tv _ => made.length - (intOf tv).toNat)
        case atStart => exact ⟨0, D1, Nat.zero_le _, rfl, Lib.hid rfl, Lib.hid ⟨H5.out.1, H5.out.2.1, H5.out.2.2.2.1⟩⟩
        case round =>
          obtain ⟨t, b', ht, rfl, HT, HB⟩ := hrel
          by_cases hlt : t < made.length
          · obtain ⟨x, hx⟩ : ∃ x, made[t]? = some x := ⟨made[t], List.getElem?_eq_getElem hlt⟩
            have hdr : made.drop t = x :: made.drop (t + 1) := by
              rw [List.drop_eq_getElem_cons hlt]
              congr 1
              rw [List.getElem?_eq_getElem hlt] at hx
              injection hx
            obtain ⟨g, cp, rest, hv', BB, _⟩ : ∃ g cp rest, (Value.slice VM made.length vm) = .slice (some ⟨g, 0, none⟩) made.length cp ∧ Blk wr g 3 (nvs' made ++ rest).toArray ∧ True := by
              rcases HB.out.2.2.2 with ⟨h1, h2⟩ | ⟨g, cap, rest, h1, h2, _⟩
              · omega
              · exact ⟨g, cap, rest, h1, h2, trivial⟩
            injection hv' with e1 e2 e3
            subst e1 e3
            have cx : wr.cell? ⟨g, t, none⟩ = some (.int .i64 x) := BB.cell_some (by
              rw [List.getElem?_toArray, List.getElem?_append_left (by simpa using hlt)]
              simp [nvs', hx])
            have HT2 := HT.out
            rw [hdr, St.dropAll_cons] at HT2
            have HT3 := Lib.hid HT2
            have K6 := Lib.hid (KD.out wr F5 b' _ HB.out.1 x)
            have htI : (t : Int) < (made.length : Int) := by omega
            clear BB hx hdr HT2
            go_wp2_with fail
            refine K6.out.mono ?_
            rintro e w7 ⟨rfl, A7, o7⟩
            have H7 := Lib.hid (show AtQ w7 pb sb F5 (b'.dropF x).1 (k + 4 * ((m : Int) - (i + 1 : Nat)) + 4) ∧ Only F w w7 ∧ Slc w7 3 1 (.slice (some ⟨g, 0, none⟩) made.length vm) made.length (nvs' made) from ⟨A7, HB.out.2.1.trans_of o7 (fun g hg hlt => (H5.out.2.2.1 g hg).elim id (fun h => by omega)), HB.out.2.2.only o7 (fun g' hg => (H5.out.2.2.2.2.1 g' hg).2)⟩)
            clear A7 o7 cx
            go_wp2_with fail
            go_roundw
            case rel => exact ⟨t + 1, (b'.dropF x).1, by omega, by go_num, HT3, H7⟩
            case measure => simp [intOf]; omega
          · have HT2 := HT.out
            rw [List.drop_eq_nil_of_le (by omega)] at HT2
            have HT2 : b' = D1.dropAll made := HT2
            subst HT2
            obtain rfl : t = made.length := by omega
            go_wp2_with fail
            go_ret2
            exact ⟨by first | rfl | simp, F5, HB.out.1.le (by omega), HB.out.2.1, H5.out.2.2.1⟩
    · obtain rfl : j = 0 := by omega
      have HW2 := HW.out
      unfold St.putC at HW2
      subst HW2
      go_wp2_with fail
      go_ret2
      exact ⟨by first | rfl | simp, F', HA.out.1.le (by omega), HA.out.2.1, HA.out.2.2.1⟩
end Go.Proofs.Ytbelcgjbhpjnpaa.Sh
