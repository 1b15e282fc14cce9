/- slots by its contracts: with. -/
import Derived.Test.YticehnnbjbliaabSl5
namespace Go.Proofs.Yticehnnbjbliaab.Sl
open Go.RowKit

/-- slots that may be read -/
def SlRd (w : World) (v : Value) (l : List Slot) : Prop :=
  ∃ A c, v = .slice A l.length c ∧ (0 < l.length → ∃ g cs, A = some ⟨g, 0, none⟩ ∧ Blk w g 81 cs ∧ ∀ (j : Nat) (u : Value), (sc l)[j]? = some u → cs[j]? = some u)
theorem SlRd.of {w : World} {v : Value} {n : Nat} {l : List Slot} (S : Slc w 81 2 v n (sc l)) : SlRd w v l := by
  have hl := S.1
  rw [sc_length] at hl
  obtain rfl : n = l.length := by omega
  obtain ⟨A, c, rfl⟩ := slc_val S
  refine ⟨A, c, rfl, fun h => ?_⟩
  obtain ⟨g, cap, rest, hv, B, _, _⟩ := S.form h (by omega)
  simp only [Value.slice.injEq, true_and] at hv
  obtain ⟨rfl, rfl⟩ := hv
  exact ⟨g, _, rfl, B, fun j u hu => by rw [List.getElem?_toArray, List.getElem?_append_left (List.getElem?_eq_some_iff.1 hu).1]; exact hu⟩
theorem SlRd.only {w w' : World} {v : Value} {l : List Slot} {S : List Nat} (h : SlRd w v l) (ho : Only S w w') (hd : ∀ g cs, Blk w g 81 cs → g ∉ S) : SlRd w' v l := by
  obtain ⟨A, c, rfl, h⟩ := h
  refine ⟨A, c, rfl, fun hl => ?_⟩
  obtain ⟨g, cs, rfl, B, hc⟩ := h hl
  exact ⟨g, cs, rfl, B.only ho (hd g cs B), hc⟩
theorem SlRd.below {w w' : World} {v : Value} {l : List Slot} (h : SlRd w v l) (hb : Below w.heap.size w w') : SlRd w' v l := h.only (S := []) (.of_below hb) (by simp)
theorem buf_apart {w : World} {v : Value} {F : List UInt8} (B : Buf w v F) : ∀ g cs, Blk w g 81 cs → g ∉ ownB v := by
  intro g cs hg hm
  obtain ⟨_, B'⟩ := slc_blkOf B g hm
  exact hg.ne_ B' (by decide) rfl
theorem SlRd.cells {w : World} {A : Option Addr} {n c : Nat} {l : List Slot} (h : SlRd w (.slice A n c) l) (k : Nat) (hk : k < l.length) : ∃ g, A = some ⟨g, 0, none⟩ ∧ w.cell? ⟨g, k * 2, none⟩ = some (.int .i64 l[k].1) ∧ w.cell? ⟨g, k * 2 + 1, none⟩ = some (.int .i64 l[k].2) := by
  obtain ⟨A', c', hv, h⟩ := h
  simp only [Value.slice.injEq] at hv
  obtain ⟨rfl, rfl, rfl⟩ := hv
  obtain ⟨g, cs, rfl, B, hc⟩ := h (by omega)
  obtain ⟨h0, h1⟩ := sc_get l k hk
  exact ⟨g, rfl, B.cell_some (hc _ _ h0), B.cell_some (hc _ _ h1)⟩
set_option maxRecDepth 100000 in
set_option maxHeartbeats 2000000 in
theorem with_any {w : World} {vb vl : Value} {F : List UInt8} {l : List Slot} (B : Buf w vb F) (S : SlRd w vl l) (heap : Int) (hF : F.length = 232) (hl : 4 + 4 * l.length ≤ 232) (hh0 : 0 ≤ heap) (hh : heap < 65536) (hx : ∀ x ∈ l, x.1 < 65536 ∧ x.2 < 65536) :
    Calls Try.prog 49 #[vb, vl, .int .i64 heap] w fun e w' => e = .returned (.string ⟨(withF F l heap.toNat).toArray⟩) ∧ Only (ownB vb) w w' := by
  obtain ⟨h, rfl⟩ := Int.eq_ofNat_of_zero_le hh0
  rw [Int.toNat_natCast]
  obtain ⟨A, c, rfl, -⟩ := id S
  have SS := Lib.hid S
  have HLen := Lib.hid (withTo_length F l h)
  have HX := Lib.hid (show ∀ k (hk : k < l.length), l[k].1 < 65536 ∧ l[k].2 < 65536 from fun k hk => hx _ (List.getElem_mem hk))
  have HST := Lib.hid (show ∀ k (hk : k < l.length), withTo F l h (k + 1) = put2 (put2 (withTo F l h k) (4 + 4 * k) l[k].1) (6 + 4 * k) l[k].2 from fun k hk => by
    rw [withTo]; simp [List.getD, List.getElem?_eq_getElem hk])
  have H0 := Lib.hid (show withTo F l h 0 = put2 (put2 F 0 l.length) 2 h from rfl)
  have HW := Lib.hid (show withF F l h = withTo F l h l.length from rfl)
  have K0 := Lib.hid (put_any B 0 l.length (by omega) (by omega) (by omega) (by omega) (by omega))
  have AP := Lib.hid (fun (w' : World) (F' : List UInt8) (B' : Buf w' vb F') => buf_apart B')
  have BB := Lib.hid B
  have HFF := Lib.hid hF
  clear S B hx hF
  go_enter Try.func49, Try.ntmps49
  go_wp2_with fail
  refine K0.out.mono ?_
  rintro e w1 ⟨rfl, B1, o1⟩
  have S1 := Lib.hid (SS.out.only o1 (AP.out _ _ BB.out))
  have O1 := Lib.hid o1
  have K2 := Lib.hid (put_any B1 2 h (by omega) (by rw [put2_length, HFF.out]; omega) (by rw [put2_length, HFF.out]; omega) (by omega) (by omega))
  have BB1 := Lib.hid B1
  clear B1 o1 K0 SS
  go_wp2_with fail
  refine K2.out.mono ?_
  rintro e w2 ⟨rfl, B2, o2⟩
  have S2 := Lib.hid (S1.out.only o2 (AP.out _ _ BB1.out))
  have O2 := Lib.hid (O1.out.trans o2)
  rw [show (2 : Int).toNat = 2 from rfl, show (0 : Int).toNat = 0 from rfl, Int.toNat_natCast, Int.toNat_natCast, ← H0.out] at B2
  have BB2 := Lib.hid B2
  clear B2 o2 K2 O1 S1 BB1
  go_wp2_with fail
  go_loopw [18] (fun iv wr => ∃ k : Nat, k ≤ l.length ∧ iv = .int .i64 k ∧ Buf wr vb (withTo F l h k) ∧ SlRd wr (.slice A l.length c) l ∧ Only (ownB vb) w wr) (fun iv _ => l.length - (intOf iv).toNat)
  case atStart => exact ⟨0, Nat.zero_le _, rfl, BB2.out, S2.out, O2.out⟩
  case round =>
    obtain ⟨k, hk, rfl, B, S, O⟩ := hrel
    by_cases hkl : k < l.length
    · obtain ⟨g, rfl, c0, c1⟩ := S.cells k hkl
      have hx := HX.out k hkl
      have HSTk := Lib.hid (HST.out k hkl)
      have hkl2 : (k : Int) < (l.length : Int) := by omega
      generalize l[k] = x at *
      obtain ⟨x0, x1⟩ := x
      simp only at hx c0 c1 HSTk
      have b8 := (Below.refl wr.heap.size wr).alloc (Nat.le_refl _) (.cells #[.int .i64 x0, .int .i64 x1] 81)
      have B8 := Lib.hid (B.below b8)
      have S8 := Lib.hid (S.below b8)
      have O8 := Lib.hid (O.trans (.of_below b8))
      have Z8 := Lib.hid (Blk.new wr 81 #[.int .i64 x0, .int .i64 x1])
      have K3 := Lib.hid (put_any B8.out (4 + 4 * k) x0 (by omega) (by rw [HLen.out, HFF.out]; omega) (by rw [HLen.out, HFF.out]; omega) (by omega) (by omega))
      clear b8 B S O
      go_wp2_with fail
      generalize wr.alloc (.cells #[.int .i64 x0, .int .i64 x1] 81) = W at *
      generalize wr.heap.size = z at *
      refine K3.out.mono ?_
      rintro e w3 ⟨rfl, B3, o3⟩
      have S3 := Lib.hid (S8.out.only o3 (AP.out _ _ B8.out))
      have O3 := Lib.hid (O8.out.trans o3)
      have Z3 := Lib.hid (Z8.out.only o3 (AP.out _ _ B8.out _ _ Z8.out))
      have z1 := Z3.out.cell_some (i := 1) rfl
      have K4 := Lib.hid (put_any B3 (4 + 4 * k + 2) x1 (by omega) (by rw [put2_length, HLen.out, HFF.out]; omega) (by rw [put2_length, HLen.out, HFF.out]; omega) (by omega) (by omega))
      have B3 := Lib.hid B3
      clear o3 K3 B8 S8 O8 Z8 c0 c1
      go_wp2_with fail
      refine K4.out.mono ?_
      rintro e w4 ⟨rfl, B4, o4⟩
      have S4 := Lib.hid (S3.out.only o4 (AP.out _ _ B3.out))
      have O4 := Lib.hid (O3.out.trans o4)
      rw [show (4 + 4 * (k : Int)).toNat = 4 + 4 * k by omega, show (4 + 4 * (k : Int) + 2).toNat = 6 + 4 * k by omega, Int.toNat_natCast, Int.toNat_natCast, ← HSTk.out] at B4
      have B4 := Lib.hid B4
      clear o4 K4 S3 O3 Z3 z1
      go_wp2_with fail
      go_roundw
      case rel => exact ⟨k + 1, by omega, by go_num, B4.out, S4.out, O4.out⟩
      case measure => simp [intOf]; omega
    · have hkn := Lib.hid (show k = l.length by omega)
      have KS := Lib.hid (B.string (by rw [HLen.out, HFF.out]; omega))
      have OO := Lib.hid O
      clear B S O
      go_wp2_with fail
      rw [KS.out]
      go_wp2_with fail
      go_ret
      refine ⟨?_, OO.out⟩
      rw [HW.out, ← hkn.out]
      rfl
end Go.Proofs.Yticehnnbjbliaab.Sl
