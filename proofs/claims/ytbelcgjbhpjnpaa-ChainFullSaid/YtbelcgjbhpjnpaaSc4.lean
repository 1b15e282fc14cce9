/- chain by its contracts: Get, Pages, Drop. -/
import Derived.Test.YtbelcgjbhpjnpaaSc3
namespace Go.Proofs.Ytbelcgjbhpjnpaa.Sh
open Go.RowKit Pk Dk Pg
attribute [local go_sem ↓] Go.wp_at_zero Go.wp_at_succ
set_option maxRecDepth 100000 in
set_option maxHeartbeats 2000000 in
theorem cget_any {w : World} {pb sb : Nat} {F : List Nat} {a : St} {k : Int} (h : AtQ w pb sb F a k) (p : Int) :
    Calls Try.prog 11 #[pp pb, .int .i64 p] w fun e w' => e = .returned (.tuple #[.string ⟨(a.cwalkF p).2.1.toArray⟩, .int .i64 (a.cwalkF p).2.2]) ∧ AtQ w' pb sb F a k ∧ Only F w w' := by
  have K := Lib.hid (cwalk_any h p)
  generalize a.cwalkF p = R at *
  clear h
  unfold pp at *
  go_enter Try.func11, Try.ntmps11
  go_wp2_with fail
  refine K.out.mono ?_
  rintro e w1 ⟨A, n, c, rfl, S1, A1, o1, f1⟩
  have S1 := Lib.hid S1
  have A1 := Lib.hid A1
  have o1 := Lib.hid o1
  go_wp2_with fail
  go_ret2
  exact ⟨by first | rfl | simp, A1.out, o1.out⟩
set_option maxRecDepth 100000 in
set_option maxHeartbeats 2000000 in
theorem cpages_any {w : World} {pb sb : Nat} {F : List Nat} {a : St} {k : Int} (h : AtQ w pb sb F a k) (p : Int) :
    Calls Try.prog 12 #[pp pb, .int .i64 p] w fun e w' => ∃ A n c, e = .returned (.tuple #[.slice A n c, .int .i64 (a.cwalkF p).2.2]) ∧ Slc w' 3 1 (.slice A n c) (a.cwalkF p).1.length (nvs' (a.cwalkF p).1) ∧ AtQ w' pb sb F a k ∧ Only F w w' ∧ ∀ g ∈ ownB (.slice A n c), w.heap.size ≤ g := by
  have K := Lib.hid (cwalk_any h p)
  generalize a.cwalkF p = R at *
  clear h
  unfold pp at *
  go_enter Try.func12, Try.ntmps12
  go_wp2_with fail
  refine K.out.mono ?_
  rintro e w1 ⟨A, n, c, rfl, S1, A1, o1, f1⟩
  have S1 := Lib.hid S1
  have A1 := Lib.hid A1
  have o1 := Lib.hid o1
  go_wp2_with fail
  go_ret2
  exact ⟨A, n, c, by first | rfl | simp, S1.out, A1.out, o1.out, f1⟩
/-- pages dropped one behind the other, until one can't be -/
def St.dropL (a : St) : List Int → St × Int
  | [] => (a, 0)
  | p :: l => if (a.dropF p).2 ≠ 0 then ((a.dropF p).1, (a.dropF p).2) else (a.dropF p).1.dropL l
def St.cdropF (a : St) (p : Int) : St × Int := if (a.cwalkF p).2.2 ≠ 0 then (a, (a.cwalkF p).2.2) else a.dropL (a.cwalkF p).1
theorem walkF_len (a : St) : ∀ (m : Nat) (p : Int) (l : List Int) (b : List UInt8), (a.walkF m p l b).1.length ≤ l.length + m
  | 0, _, _, _ => by simp [St.walkF]
  | m + 1, p, l, b => by
    unfold St.walkF
    split
    · simp
    · split
      · simp
      · split
        · simp
        · split
          · simp <;> omega
          · have := walkF_len a m (a.readC p).1 (l ++ [p]) (b ++ (a.readC p).2.1)
            simp only [List.length_append, List.length_cons, List.length_nil] at this
            omega
set_option maxRecDepth 100000 in
set_option maxHeartbeats 2000000 in
theorem cdrop_any {w : World} {pb sb : Nat} {F : List Nat} {a : St} {k : Int} (h : AtQ w pb sb F a k) (p : Int) :
    Calls Try.prog 10 #[pp pb, .int .i64 p] w fun e w' => e = .returned (.int .i64 (a.cdropF p).2) ∧ AtQ w' pb sb F (a.cdropF p).1 k ∧ Only F w w' := by
  have K := Lib.hid (cwalk_any h p)
  have KD := Lib.hid (fun (W : World) (b : St) (hW : AtQ W pb sb F b k) (q : Int) => qdrop_any hW q)
  have HLT := Lib.hid h.lt
  obtain ⟨R, hR⟩ : ∃ R, a.cdropF p = R := ⟨_, rfl⟩
  rw [hR]
  unfold St.cdropF at hR
  have hlen : (a.cwalkF p).1.length ≤ 5 := walkF_len a 5 p [] []
  generalize a.cwalkF p = Q at *
  obtain ⟨L, B, E⟩ := Q
  dsimp only at *
  clear h
  unfold pp at *
  by_cases h0 : E = 0
  · subst h0
    rw [if_neg (by simp)] at hR
    have HR := Lib.hid hR
    clear hR
    go_enter Try.func10, Try.ntmps10
    go_wp2_with fail
    refine K.out.mono ?_
    rintro e w1 ⟨A, n, c, rfl, S1, A1, o1, f1⟩
    obtain ⟨A', c', e⟩ := slc_val S1
    injection e with e1 e2 e3
    subst e1 e2 e3
    have HL := Lib.hid S1
    have H1 := Lib.hid (And.intro A1 (And.intro o1 f1))
    clear S1 A1 o1 f1
    go_wp2_with fail
    go_loopw [23] (fun iv wr => ∃ (i : Nat) (b : St), i ≤ L.length ∧ iv = .int .i64 i ∧ Hid (b.dropL (L.drop i) = R) ∧ Hid (AtQ wr pb sb F b k ∧ Only F w wr ∧ Slc wr 3 1 (.slice A L.length c) L.length (nvs' L))) (fun iv _ => L.length - (intOf iv).toNat)
    case atStart => exact ⟨0, a, Nat.zero_le _, rfl, HR, Lib.hid ⟨H1.out.1, H1.out.2.1, HL.out⟩⟩
    case round =>
      obtain ⟨i, b, hi, rfl, HW, HA⟩ := hrel
      by_cases h : i < L.length
      · obtain ⟨x, hx⟩ : ∃ x, L[i]? = some x := ⟨L[i], List.getElem?_eq_getElem h⟩
        have hdr : L.drop i = x :: L.drop (i + 1) := by
          rw [List.drop_eq_getElem_cons h]
          congr 1
          rw [List.getElem?_eq_getElem h] at hx
          injection hx
        obtain ⟨g, cp, rest, hv, BB, _⟩ : ∃ g cp rest, (Value.slice A L.length c) = .slice (some ⟨g, 0, none⟩) L.length cp ∧ Blk wr g 3 (nvs' L ++ rest).toArray ∧ True := by
          rcases HA.out.2.2.2 with ⟨h1, h2⟩ | ⟨g, cap, rest, h1, h2, _⟩
          · omega
          · exact ⟨g, cap, rest, h1, h2, trivial⟩
        injection hv with e1 e2 e3
        subst e1 e3
        have cx : wr.cell? ⟨g, i, none⟩ = some (.int .i64 x) := BB.cell_some (by
          rw [List.getElem?_toArray, List.getElem?_append_left (by simpa using h)]
          simp [nvs', hx])
        have HW2 := HW.out
        rw [hdr] at HW2
        unfold St.dropL at HW2
        have K2 := Lib.hid (KD.out wr b HA.out.1 x)
        have hiI : (i : Int) < (L.length : Int) := by omega
        have hl5 : (L.length : Int) ≤ 5 := by have := hlen; omega
        have HFR := Lib.hid (show ∀ g' ∈ ownB (.slice (some ⟨g, 0, none⟩) L.length c), g' ∉ F from fun g' hg hF => by have := H1.out.2.2 g' hg; have := HLT.out g' hF; omega)
        generalize b.dropF x = D at *
        obtain ⟨D1, D2⟩ := D
        dsimp only at *
        by_cases hd : D2 = 0
        · subst hd
          rw [if_neg (by simp)] at HW2
          have HW2 := Lib.hid HW2
          clear BB hx hdr
          go_wp2_with fail
          refine K2.out.mono ?_
          rintro e w2 ⟨rfl, A2, o2⟩
          have H2 := Lib.hid (show AtQ w2 pb sb F D1 k ∧ Only F w w2 ∧ Slc w2 3 1 (.slice (some ⟨g, 0, none⟩) L.length c) L.length (nvs' L) from ⟨A2, HA.out.2.1.trans o2, HA.out.2.2.only o2 HFR.out⟩)
          clear A2 o2 cx
          go_wp2_with fail
          go_roundw
          case rel => exact ⟨i + 1, D1, by omega, by go_num, HW2, H2⟩
          case measure => simp [intOf]; omega
        · rw [if_pos hd] at HW2
          subst HW2
          have hq : (D2 != 0) = true := by rw [bne_iff_ne]; exact hd
          have hq2 : (D2 == 0) = false := by rw [beq_eq_false_iff_ne]; exact hd
          clear BB hx hdr
          go_wp2_with fail
          refine K2.out.mono ?_
          rintro e w2 ⟨rfl, A2, o2⟩
          have H2 := Lib.hid (show AtQ w2 pb sb F D1 k ∧ Only F w w2 from ⟨A2, HA.out.2.1.trans o2⟩)
          clear A2 o2 cx
          go_wp2_with fail
          go_ret
          exact ⟨by first | rfl | simp, H2.out.1, H2.out.2⟩
      · have HW2 := HW.out
        rw [List.drop_eq_nil_of_le (by omega)] at HW2
        unfold St.dropL at HW2
        subst HW2
        obtain rfl : i = L.length := by omega
        go_wp2_with fail
        go_ret
        exact ⟨by first | rfl | simp, HA.out.1, HA.out.2.1⟩
  · rw [if_pos h0] at hR
    subst hR
    have hq : (E != 0) = true := by rw [bne_iff_ne]; exact h0
    have hq2 : (E == 0) = false := by rw [beq_eq_false_iff_ne]; exact h0
    go_enter Try.func10, Try.ntmps10
    go_wp2_with fail
    refine K.out.mono ?_
    rintro e w1 ⟨A, n, c, rfl, S1, A1, o1, f1⟩
    have H1 := Lib.hid (And.intro A1 o1)
    clear S1 A1 o1 f1
    go_wp2_with fail
    go_ret
    exact ⟨by first | rfl | simp, H1.out.1, H1.out.2⟩
end Go.Proofs.Ytbelcgjbhpjnpaa.Sh
