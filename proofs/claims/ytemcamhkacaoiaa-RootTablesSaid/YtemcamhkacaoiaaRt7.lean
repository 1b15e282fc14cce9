/- roots: Get. -/
import Derived.Test.YtemcamhkacaoiaaRt6
namespace Go.Proofs.Ytemcamhkacaoiaa.Rt
open Go.RowKit Pk
attribute [local go_sem ↓] Go.wp_at_zero Go.wp_at_succ
theorem exl (u : ByteArray) (a b : Nat) : (u.extract a b).data.toList = (u.data.toList.drop a).take (b - a) := by
  rw [ByteArray.data_extract, Array.toList_extract, List.extract_eq_take_drop]
/-- the parts read so far -/
def arr (m : List UInt8) (k : Nat) : List Nat := (List.range 5).map fun i => if i < k then at2 m (4 + 2 * i) else 0
theorem toLb {a b : ByteArray} (h : a ≠ b) : (a.toList == b.toList) = false := by
  apply beq_eq_false_iff_ne.2
  intro e
  rw [bytes_toList, bytes_toList] at e
  exact h (ByteArray.ext (Array.toList_inj.1 e))
theorem IntsAt.only {w w' : World} {S : List Nat} {A : Option Addr} {n : Nat} {l : List Int} (h : IntsAt w A n l) (ho : Only S w w') (hA : ∀ ad, A = some ad → ad.block ∉ S) : IntsAt w' A n l := by
  refine ⟨h.1, fun k x hx => ?_⟩
  obtain ⟨ad, e1, h1⟩ := h.2 k x hx
  exact ⟨ad, e1, (ho.cell (by rw [block_of_add]; exact cell_lt h1) (by rw [block_of_add]; exact hA ad e1)).trans h1⟩
theorem arr_ints {W : World} {g : Nat} {v : List UInt8} {n : Nat} (B : Blk W g 46 (ivs (arr (decM v) 5)).toArray) (hn : at2 (decM v) 2 = n) (h5 : n ≤ 5) : IntsAt W (some ⟨g, 0, none⟩) n (natI (decP v)) := by
  have hl : (decP v).length = n := by unfold decP; simp [hn]
  refine ⟨by simpa [natI] using hl, fun k x hx => ⟨_, rfl, ?_⟩⟩
  have hk : k < n := by have := (List.getElem?_eq_some_iff.1 hx).1; simp only [natI, List.length_map, hl] at this; exact this
  have e : (⟨g, 0, none⟩ : Addr).add k = ⟨g, k, none⟩ := by unfold Addr.add; split <;> simp_all
  rw [e, B.cell]
  have hx2 : x = ((at2 (decM v) (4 + 2 * k) : Nat) : Int) := by
    unfold natI decP at hx
    rw [hn, List.getElem?_map, List.getElem?_map, List.getElem?_range hk] at hx
    simp at hx
    exact hx.symm
  subst hx2
  unfold ivs arr
  rw [List.getElem?_toArray, List.getElem?_map, List.getElem?_map, List.getElem?_range (by omega)]
  simp [show k < 5 by omega]
/-- what Get tells of 64 bytes -/
def GotR (v : List UInt8) (w : World) (e : Ending) (w' : World) : Prop :=
  ((goodR v ∧ ∃ A c, e = .returned (.tuple #[rootV (decEp v) (at2 (decM v) 0 : Nat) A (at2 (decM v) 2) c, .bool true]) ∧ IntsAt w' A (at2 (decM v) 2) (natI (decP v)) ∧ at2 (decM v) 2 ≤ c ∧ ∀ ad, A = some ad → w.heap.size ≤ ad.block) ∨
   (¬ goodR v ∧ e = .returned (.tuple #[rootV 0 0 none 0 0, .bool false]))) ∧ Below w.heap.size w w'
set_option maxRecDepth 100000 in
set_option maxHeartbeats 2000000 in
theorem rget_len (u : ByteArray) (hz : u.size ≠ 64) (w : World) :
    Calls Try.prog 8 #[.string u] w fun e w' => e = .returned (.tuple #[rootV 0 0 none 0 0, .bool false]) ∧ Below w.heap.size w w' := by
  have B0 := Lib.hid (Blk.new w 29 #[.int .i64 0, .int .i64 0, .slice none 0 0])
  have O0 := Lib.hid (belowAlloc (Below.refl w.heap.size w) (.cells #[.int .i64 0, .int .i64 0, .slice none 0 0] 29))
  have h1 : ¬ (u.size : Int) = 64 := by omega
  have h2 : ((u.size : Int) == 64) = false := by simpa using h1
  unfold rootV
  go_enter Try.func8, Try.ntmps8
  go_wp2_with fail
  exact bodyPost_ret (ret_root2 rfl rfl B0.out) rfl ⟨rfl, O0.out⟩
set_option maxRecDepth 100000 in
set_option maxHeartbeats 4000000 in
theorem rget_any (u : ByteArray) (hz : u.size = 64) (w : World) :
    Calls Try.prog 8 #[.string u] w (GotR u.data.toList w) := by
  have B0 := Lib.hid (Blk.new w 29 #[.int .i64 0, .int .i64 0, .slice none 0 0])
  have O0 := Lib.hid (belowAlloc (Below.refl w.heap.size w) (.cells #[.int .i64 0, .int .i64 0, .slice none 0 0] 29))
  obtain ⟨v, hv⟩ : ∃ v, u.data.toList = v := ⟨_, rfl⟩
  have hvl : v.length = 64 := by rw [← hv]; simpa using hz
  have K0 := Lib.hid (fun w => readI_any u 0 w (by omega) (by omega))
  have K1 := Lib.hid (fun w => readI_any u 56 w (by omega) (by omega))
  rw [exl, hv] at K0 K1
  obtain ⟨T, hT⟩ : ∃ T, u.extract 8 56 = T := ⟨_, rfl⟩
  have hTl : T.data.toList = (v.drop 8).take 48 := by rw [← hT, exl, hv]
  have hTz : T.size = 48 := by rw [← hT, ByteArray.size_extract]; omega
  have hd0 : (beN ((v.drop 0).take (0 + 8 - 0)) : Int) - 9223372036854775808 = decEp v := rfl
  have hd1 : (v.drop 56).take (56 + 8 - 56) = v.drop 56 := List.take_of_length_le (by rw [List.length_drop]; omega)
  rw [hd0] at K0
  rw [hd1] at K1
  obtain ⟨ep, hep⟩ : ∃ ep, decEp v = ep := ⟨_, rfl⟩
  obtain ⟨ep2, hep2⟩ : ∃ ep2, (beN (v.drop 56) : Int) - 9223372036854775808 = ep2 := ⟨_, rfl⟩
  rw [hep] at K0
  rw [hep2] at K1
  have HG2 := Lib.hid (show goodR v → ep = ep2 from fun hg => by rw [← hep, ← hep2]; unfold decEp; rw [(good_crc hg).2])
  have HU := Lib.hid hv
  have HEP := Lib.hid hep
  rw [hv]
  have hzI : (u.size : Int) = 64 := by omega
  unfold GotR rootV
  rw [hep]
  by_cases hc : Crc.fourL (Crc.sumF (T.data.toList.drop 4)) = T.data.toList.take 4
  · have KC := Lib.hid (fun w => Crc.cut_ok T w (by omega) (by unfold maxLen; omega) hc)
    obtain ⟨Tm, hTm⟩ : ∃ Tm, T.extract 4 T.size = Tm := ⟨_, rfl⟩
    have hTml : Tm.data.toList = decM v := by
      rw [← hTm, exl, hTl, hTz]
      unfold decM
      rw [List.drop_take, List.drop_drop, List.take_take]; rfl
    have hTmz : Tm.size = 44 := by rw [← hTm, ByteArray.size_extract]; omega
    rw [hTm] at KC
    have HTM := Lib.hid hTml
    clear hc hTl hep hep2 hd0 hd1 hTm hv
    go_enter Try.func8, Try.ntmps8
    go_wp2_with fail
    refine (K0.out _).mono ?_
    rintro e w1 ⟨rfl, hb1⟩
    have O1 := Lib.hid (bstep O0.out hb1)
    have B1 := Lib.hid (B0.out.below hb1 B0.out.lt)
    clear hb1
    go_wp2_with fail
    refine (K1.out _).mono ?_
    rintro e w2 ⟨rfl, hb2⟩
    have O2 := Lib.hid (bstep O1.out hb2)
    have B2 := Lib.hid (B1.out.below hb2 B1.out.lt)
    clear hb2
    go_wp2_with fail
    refine (KC.out _).mono ?_
    rintro e w3 ⟨rfl, hb3⟩
    have HB3 := Lib.hid hb3.size
    have a4 := belowAlloc (Below.refl w3.heap.size w3) (.cells #[.string Tm] 9)
    have O4 := Lib.hid (bstep (bstep O2.out hb3) a4)
    have B4 := Lib.hid ((B2.out.below hb3 B2.out.lt).alloc (.cells #[.string Tm] 9))
    have N4 := Lib.hid (Blk.new w3 9 #[.string Tm])
    clear hb3 a4 KC
    by_cases hee : ep = ep2
    · subst hee
      clear HG2
      go_wp2_with fail
      generalize hw4 : (w3.alloc (.cells #[.string Tm] 9)) = w4 at *
      clear hw4
      have G0 := get1_any N4.out 0 (by omega) (by omega)
      refine G0.mono ?_
      rintro e w5 ⟨rfl, hb5⟩
      rw [HTM.out]
      have O5 := Lib.hid (bstep O4.out hb5)
      have B5 := Lib.hid (B4.out.below hb5 B4.out.lt)
      have N5 := Lib.hid (N4.out.below hb5 N4.out.lt)
      obtain ⟨lg, hlg⟩ : ∃ lg, at2 (decM v) 0 = lg := ⟨_, rfl⟩
      have hlgl := at2_lt (decM v) 0
      rw [hlg] at hlgl ⊢
      have HLG := Lib.hid hlg
      clear hb5 G0 hlg
      have a6 := belowAlloc (Below.refl w5.heap.size w5) (.cells #[.int .i64 ep, .int .i64 (lg : Int), .slice none 0 0] 29)
      have O6 := Lib.hid (bstep O5.out a6)
      have B6 := Lib.hid (B5.out.alloc (.cells #[.int .i64 ep, .int .i64 (lg : Int), .slice none 0 0] 29))
      have N6 := Lib.hid (N5.out.alloc (.cells #[.int .i64 ep, .int .i64 (lg : Int), .slice none 0 0] 29))
      have R6 := Lib.hid (Blk.new w5 29 #[.int .i64 ep, .int .i64 (lg : Int), .slice none 0 0])
      clear a6
      go_wp2_with fail
      generalize hw6 : (w5.alloc (.cells #[.int .i64 ep, .int .i64 (lg : Int), .slice none 0 0] 29)) = w6 at *
      clear hw6
      have G2 := get1_any N6.out 2 (by omega) (by omega)
      refine G2.mono ?_
      rintro e w7 ⟨rfl, hb7⟩
      rw [HTM.out]
      have O7 := Lib.hid (bstep O6.out hb7)
      have B7 := Lib.hid (B6.out.below hb7 B6.out.lt)
      have N7 := Lib.hid (N6.out.below hb7 N6.out.lt)
      have R7 := Lib.hid (R6.out.below hb7 R6.out.lt)
      obtain ⟨n, hn⟩ : ∃ n, at2 (decM v) 2 = n := ⟨_, rfl⟩
      rw [hn]
      have HN := Lib.hid hn
      clear hb7 G2 hn
      by_cases hn5 : n ≤ 5
      · have hn5I : ¬ (5 : Int) < (n : Int) := by omega
        have A8 := Lib.hid (Blk.new w7 46 #[.int .i64 0, .int .i64 0, .int .i64 0, .int .i64 0, .int .i64 0])
        have a8 := belowAlloc (Below.refl w7.heap.size w7) (.cells #[.int .i64 0, .int .i64 0, .int .i64 0, .int .i64 0, .int .i64 0] 46)
        have O8 := Lib.hid (bstep O7.out a8)
        have B8 := Lib.hid (B7.out.alloc (.cells #[.int .i64 0, .int .i64 0, .int .i64 0, .int .i64 0, .int .i64 0] 46))
        have N8 := Lib.hid (N7.out.alloc (.cells #[.int .i64 0, .int .i64 0, .int .i64 0, .int .i64 0, .int .i64 0] 46))
        have R8 := Lib.hid (R7.out.alloc (.cells #[.int .i64 0, .int .i64 0, .int .i64 0, .int .i64 0, .int .i64 0] 46))
        clear a8
        have hlt1 := B7.out.lt
        have hlt2 := N7.out.lt
        have hlt3 := R7.out.lt
        have hlt4 : w3.heap.size < w5.heap.size := N5.out.lt
        have hlt5 : w.heap.size < w3.heap.size := by have := B2.out.lt; exact Nat.lt_of_lt_of_le this HB3.out
        go_wp2_with fail
        generalize hw8 : (w7.alloc (.cells #[.int .i64 0, .int .i64 0, .int .i64 0, .int .i64 0, .int .i64 0] 46)) = w8 at *
        clear hw8
        go_loopw [59] (fun iv wr => ∃ i : Nat, i ≤ 5 ∧ iv = .int .i64 (i : Int) ∧ Hid (Blk wr w7.heap.size 46 (ivs (arr (decM v) i)).toArray) ∧ Hid (Blk wr w.heap.size 29 #[.int .i64 0, .int .i64 0, .slice none 0 0]) ∧ Hid (Blk wr w3.heap.size 9 #[.string Tm]) ∧ Hid (Blk wr w5.heap.size 29 #[.int .i64 ep, .int .i64 (lg : Int), .slice none 0 0]) ∧ Hid (Below w.heap.size w wr)) (fun iv _ => 5 - (intOf iv).toNat)
        case atStart => exact ⟨0, by omega, rfl, A8, B8, N8, R8, O8⟩
        case round =>
          obtain ⟨i, hi, rfl, A9, B9, N9, R9, O9⟩ := hrel
          rcases (show i = 0 ∨ i = 1 ∨ i = 2 ∨ i = 3 ∨ i = 4 ∨ i = 5 from by omega) with rfl | rfl | rfl | rfl | rfl | rfl
          · have G := get1_any N9.out 4 (by omega) (by omega)
            have GH := Lib.hid G
            rw [HTM.out] at GH
            obtain ⟨qk, hqk⟩ : ∃ qk, at2 (decM v) 4 = qk := ⟨_, rfl⟩
            have HQK := Lib.hid hqk
            rw [hqk] at GH
            clear G hqk
            go_wp2_with fail
            refine GH.out.mono ?_
            rintro e wa ⟨rfl, hba⟩
            have Aa := Lib.hid (A9.out.below hba A9.out.lt)
            have Ba := Lib.hid (B9.out.below hba B9.out.lt)
            have Na := Lib.hid (N9.out.below hba N9.out.lt)
            have Ra := Lib.hid (R9.out.below hba R9.out.lt)
            have Oa := Lib.hid (bstep O9.out hba)
            have fz : wa.frozen? ⟨w7.heap.size, 0, none⟩ = false := Aa.out.frozen 0 (by simp [ivs, arr])
            have cz : wa.cell? ⟨w7.heap.size, 0, none⟩ = some (.int .i64 0) := Aa.out.cell_some (i := 0) rfl
            have Ab := Lib.hid (show Blk (wa.setCell ⟨w7.heap.size, 0, none⟩ (.int .i64 (qk : Int))) w7.heap.size 46 (ivs (arr (decM v) (0 + 1))).toArray from by
              have := Aa.out.set_ 0 (.int .i64 (qk : Int))
              rw [← HQK.out] at this ⊢
              exact this)
            have Bb := Lib.hid (Ba.out.far (p := ⟨w7.heap.size, 0, none⟩) (by simp; omega) (.int .i64 (qk : Int)))
            have Nb := Lib.hid (Na.out.far (p := ⟨w7.heap.size, 0, none⟩) (by simp; omega) (.int .i64 (qk : Int)))
            have Rb := Lib.hid (Ra.out.far (p := ⟨w7.heap.size, 0, none⟩) (by simp; omega) (.int .i64 (qk : Int)))
            have Ob := Lib.hid (((Only.of_below (S := []) Oa.out).setCell (p := ⟨w7.heap.size, 0, none⟩) (fun h => absurd h (by simp; omega)) (.int .i64 (qk : Int))).below_nil)
            clear hba
            go_wp2_with fail
            go_roundw
            case rel => exact ⟨0 + 1, by omega, by first | rfl | go_num, Ab, Bb, Nb, Rb, Ob⟩
            case measure => simp [intOf]
          · have G := get1_any N9.out 6 (by omega) (by omega)
            have GH := Lib.hid G
            rw [HTM.out] at GH
            obtain ⟨qk, hqk⟩ : ∃ qk, at2 (decM v) 6 = qk := ⟨_, rfl⟩
            have HQK := Lib.hid hqk
            rw [hqk] at GH
            clear G hqk
            go_wp2_with fail
            refine GH.out.mono ?_
            rintro e wa ⟨rfl, hba⟩
            have Aa := Lib.hid (A9.out.below hba A9.out.lt)
            have Ba := Lib.hid (B9.out.below hba B9.out.lt)
            have Na := Lib.hid (N9.out.below hba N9.out.lt)
            have Ra := Lib.hid (R9.out.below hba R9.out.lt)
            have Oa := Lib.hid (bstep O9.out hba)
            have fz : wa.frozen? ⟨w7.heap.size, 1, none⟩ = false := Aa.out.frozen 1 (by simp [ivs, arr])
            have cz : wa.cell? ⟨w7.heap.size, 1, none⟩ = some (.int .i64 0) := Aa.out.cell_some (i := 1) rfl
            have Ab := Lib.hid (show Blk (wa.setCell ⟨w7.heap.size, 1, none⟩ (.int .i64 (qk : Int))) w7.heap.size 46 (ivs (arr (decM v) (1 + 1))).toArray from by
              have := Aa.out.set_ 1 (.int .i64 (qk : Int))
              rw [← HQK.out] at this ⊢
              exact this)
            have Bb := Lib.hid (Ba.out.far (p := ⟨w7.heap.size, 1, none⟩) (by simp; omega) (.int .i64 (qk : Int)))
            have Nb := Lib.hid (Na.out.far (p := ⟨w7.heap.size, 1, none⟩) (by simp; omega) (.int .i64 (qk : Int)))
            have Rb := Lib.hid (Ra.out.far (p := ⟨w7.heap.size, 1, none⟩) (by simp; omega) (.int .i64 (qk : Int)))
            have Ob := Lib.hid (((Only.of_below (S := []) Oa.out).setCell (p := ⟨w7.heap.size, 1, none⟩) (fun h => absurd h (by simp; omega)) (.int .i64 (qk : Int))).below_nil)
            clear hba
            go_wp2_with fail
            go_roundw
            case rel => exact ⟨1 + 1, by omega, by first | rfl | go_num, Ab, Bb, Nb, Rb, Ob⟩
            case measure => simp [intOf]
          · have G := get1_any N9.out 8 (by omega) (by omega)
            have GH := Lib.hid G
            rw [HTM.out] at GH
            obtain ⟨qk, hqk⟩ : ∃ qk, at2 (decM v) 8 = qk := ⟨_, rfl⟩
            have HQK := Lib.hid hqk
            rw [hqk] at GH
            clear G hqk
            go_wp2_with fail
            refine GH.out.mono ?_
            rintro e wa ⟨rfl, hba⟩
            have Aa := Lib.hid (A9.out.below hba A9.out.lt)
            have Ba := Lib.hid (B9.out.below hba B9.out.lt)
            have Na := Lib.hid (N9.out.below hba N9.out.lt)
            have Ra := Lib.hid (R9.out.below hba R9.out.lt)
            have Oa := Lib.hid (bstep O9.out hba)
            have fz : wa.frozen? ⟨w7.heap.size, 2, none⟩ = false := Aa.out.frozen 2 (by simp [ivs, arr])
            have cz : wa.cell? ⟨w7.heap.size, 2, none⟩ = some (.int .i64 0) := Aa.out.cell_some (i := 2) rfl
            have Ab := Lib.hid (show Blk (wa.setCell ⟨w7.heap.size, 2, none⟩ (.int .i64 (qk : Int))) w7.heap.size 46 (ivs (arr (decM v) (2 + 1))).toArray from by
              have := Aa.out.set_ 2 (.int .i64 (qk : Int))
              rw [← HQK.out] at this ⊢
              exact this)
            have Bb := Lib.hid (Ba.out.far (p := ⟨w7.heap.size, 2, none⟩) (by simp; omega) (.int .i64 (qk : Int)))
            have Nb := Lib.hid (Na.out.far (p := ⟨w7.heap.size, 2, none⟩) (by simp; omega) (.int .i64 (qk : Int)))
            have Rb := Lib.hid (Ra.out.far (p := ⟨w7.heap.size, 2, none⟩) (by simp; omega) (.int .i64 (qk : Int)))
            have Ob := Lib.hid (((Only.of_below (S := []) Oa.out).setCell (p := ⟨w7.heap.size, 2, none⟩) (fun h => absurd h (by simp; omega)) (.int .i64 (qk : Int))).below_nil)
            clear hba
            go_wp2_with fail
            go_roundw
            case rel => exact ⟨2 + 1, by omega, by first | rfl | go_num, Ab, Bb, Nb, Rb, Ob⟩
            case measure => simp [intOf]
          · have G := get1_any N9.out 10 (by omega) (by omega)
            have GH := Lib.hid G
            rw [HTM.out] at GH
            obtain ⟨qk, hqk⟩ : ∃ qk, at2 (decM v) 10 = qk := ⟨_, rfl⟩
            have HQK := Lib.hid hqk
            rw [hqk] at GH
            clear G hqk
            go_wp2_with fail
            refine GH.out.mono ?_
            rintro e wa ⟨rfl, hba⟩
            have Aa := Lib.hid (A9.out.below hba A9.out.lt)
            have Ba := Lib.hid (B9.out.below hba B9.out.lt)
            have Na := Lib.hid (N9.out.below hba N9.out.lt)
            have Ra := Lib.hid (R9.out.below hba R9.out.lt)
            have Oa := Lib.hid (bstep O9.out hba)
            have fz : wa.frozen? ⟨w7.heap.size, 3, none⟩ = false := Aa.out.frozen 3 (by simp [ivs, arr])
            have cz : wa.cell? ⟨w7.heap.size, 3, none⟩ = some (.int .i64 0) := Aa.out.cell_some (i := 3) rfl
            have Ab := Lib.hid (show Blk (wa.setCell ⟨w7.heap.size, 3, none⟩ (.int .i64 (qk : Int))) w7.heap.size 46 (ivs (arr (decM v) (3 + 1))).toArray from by
              have := Aa.out.set_ 3 (.int .i64 (qk : Int))
              rw [← HQK.out] at this ⊢
              exact this)
            have Bb := Lib.hid (Ba.out.far (p := ⟨w7.heap.size, 3, none⟩) (by simp; omega) (.int .i64 (qk : Int)))
            have Nb := Lib.hid (Na.out.far (p := ⟨w7.heap.size, 3, none⟩) (by simp; omega) (.int .i64 (qk : Int)))
            have Rb := Lib.hid (Ra.out.far (p := ⟨w7.heap.size, 3, none⟩) (by simp; omega) (.int .i64 (qk : Int)))
            have Ob := Lib.hid (((Only.of_below (S := []) Oa.out).setCell (p := ⟨w7.heap.size, 3, none⟩) (fun h => absurd h (by simp; omega)) (.int .i64 (qk : Int))).below_nil)
            clear hba
            go_wp2_with fail
            go_roundw
            case rel => exact ⟨3 + 1, by omega, by first | rfl | go_num, Ab, Bb, Nb, Rb, Ob⟩
            case measure => simp [intOf]
          · have G := get1_any N9.out 12 (by omega) (by omega)
            have GH := Lib.hid G
            rw [HTM.out] at GH
            obtain ⟨qk, hqk⟩ : ∃ qk, at2 (decM v) 12 = qk := ⟨_, rfl⟩
            have HQK := Lib.hid hqk
            rw [hqk] at GH
            clear G hqk
            go_wp2_with fail
            refine GH.out.mono ?_
            rintro e wa ⟨rfl, hba⟩
            have Aa := Lib.hid (A9.out.below hba A9.out.lt)
            have Ba := Lib.hid (B9.out.below hba B9.out.lt)
            have Na := Lib.hid (N9.out.below hba N9.out.lt)
            have Ra := Lib.hid (R9.out.below hba R9.out.lt)
            have Oa := Lib.hid (bstep O9.out hba)
            have fz : wa.frozen? ⟨w7.heap.size, 4, none⟩ = false := Aa.out.frozen 4 (by simp [ivs, arr])
            have cz : wa.cell? ⟨w7.heap.size, 4, none⟩ = some (.int .i64 0) := Aa.out.cell_some (i := 4) rfl
            have Ab := Lib.hid (show Blk (wa.setCell ⟨w7.heap.size, 4, none⟩ (.int .i64 (qk : Int))) w7.heap.size 46 (ivs (arr (decM v) (4 + 1))).toArray from by
              have := Aa.out.set_ 4 (.int .i64 (qk : Int))
              rw [← HQK.out] at this ⊢
              exact this)
            have Bb := Lib.hid (Ba.out.far (p := ⟨w7.heap.size, 4, none⟩) (by simp; omega) (.int .i64 (qk : Int)))
            have Nb := Lib.hid (Na.out.far (p := ⟨w7.heap.size, 4, none⟩) (by simp; omega) (.int .i64 (qk : Int)))
            have Rb := Lib.hid (Ra.out.far (p := ⟨w7.heap.size, 4, none⟩) (by simp; omega) (.int .i64 (qk : Int)))
            have Ob := Lib.hid (((Only.of_below (S := []) Oa.out).setCell (p := ⟨w7.heap.size, 4, none⟩) (fun h => absurd h (by simp; omega)) (.int .i64 (qk : Int))).below_nil)
            clear hba
            go_wp2_with fail
            go_roundw
            case rel => exact ⟨4 + 1, by omega, by first | rfl | go_num, Ab, Bb, Nb, Rb, Ob⟩
            case measure => simp [intOf]
          · have r0 : wr.cell? ⟨w5.heap.size, 0, none⟩ = some (.int .i64 ep) := R9.out.cell_some (i := 0) rfl
            have r1 : wr.cell? ⟨w5.heap.size, 1, none⟩ = some (.int .i64 (lg : Int)) := R9.out.cell_some (i := 1) rfl
            have r2 : wr.cell? ⟨w5.heap.size, 2, none⟩ = some (.slice none 0 0) := R9.out.cell_some (i := 2) rfl
            have r3 : wr.frozen? ⟨w5.heap.size, 2, none⟩ = false := R9.out.frozen 2 (by simp)
            have RX := Lib.hid (show Blk (wr.setCell ⟨w5.heap.size, 2, none⟩ (.slice (some ⟨w7.heap.size, 0, none⟩) n n)) w5.heap.size 29 #[.int .i64 ep, .int .i64 (lg : Int), (.slice (some ⟨w7.heap.size, 0, none⟩) n n)] from R9.out.set_ 2 (.slice (some ⟨w7.heap.size, 0, none⟩) n n))
            have BX := Lib.hid (B9.out.far (p := ⟨w5.heap.size, 2, none⟩) (by simp; omega) (.slice (some ⟨w7.heap.size, 0, none⟩) n n))
            have AX := A9.out.far (p := ⟨w5.heap.size, 2, none⟩) (by simp; omega) (.slice (some ⟨w7.heap.size, 0, none⟩) n n)
            have OX := Lib.hid (((Only.of_below (S := []) O9.out).setCell (p := ⟨w5.heap.size, 2, none⟩) (fun h => absurd h (by simp; omega)) (.slice (some ⟨w7.heap.size, 0, none⟩) n n)).below_nil)
            have IX := Lib.hid (arr_ints AX HN.out hn5)
            have n1 : (n : Int) ≤ 5 := by omega
            have n2 : (0 : Int) ≤ (n : Int) := by omega
            clear AX
            obtain ⟨Ps, hPs⟩ : ∃ Ps, decP v = Ps := ⟨_, rfl⟩
            rw [hPs] at IX
            have HPS := Lib.hid hPs
            clear hPs
            by_cases hr : rightR ep (lg : Int) (natI Ps)
            · have KP := Lib.hid (rput_yes (w := (wr.setCell ⟨w5.heap.size, 2, none⟩ (.slice (some ⟨w7.heap.size, 0, none⟩) n n))) ep lg (some ⟨w7.heap.size, 0, none⟩) n n Ps IX.out (Nat.le_refl _) hr)
              obtain ⟨RS, hRS⟩ : ∃ RS : ByteArray, (⟨(rootL ep lg Ps).toArray⟩ : ByteArray) = RS := ⟨_, rfl⟩
              rw [hRS] at KP
              unfold rootV at KP
              have HR := Lib.hid hr
              clear hr
              by_cases hu : RS = u
              · have HGD := Lib.hid (show goodR v from ⟨by rw [HN.out]; exact hn5, by rw [HEP.out, HLG.out, HPS.out]; exact HR.out, by rw [HEP.out, HLG.out, HPS.out, ← HU.out, ← hu, ← hRS]⟩)
                subst hu
                clear hRS
                go_wp2_with fail
                generalize hwx : (wr.setCell ⟨w5.heap.size, 2, none⟩ (.slice (some ⟨w7.heap.size, 0, none⟩) n n)) = wx at *
                clear hwx r0 r1 r2 r3
                refine KP.out.mono ?_
                rintro e wp ⟨rfl, hbp⟩
                have Op := Lib.hid (bstep OX.out hbp)
                have Bp := Lib.hid (BX.out.below hbp BX.out.lt)
                have Rp := Lib.hid (RX.out.below hbp RX.out.lt)
                have Ip := Lib.hid (IX.out.below hbp)
                have r0 : wp.cell? ⟨w5.heap.size, 0, none⟩ = some (.int .i64 ep) := Rp.out.cell_some (i := 0) rfl
                have r1 : wp.cell? ⟨w5.heap.size, 1, none⟩ = some (.int .i64 (lg : Int)) := Rp.out.cell_some (i := 1) rfl
                have r2 : wp.cell? ⟨w5.heap.size, 2, none⟩ = some (.slice (some ⟨w7.heap.size, 0, none⟩) n n) := Rp.out.cell_some (i := 2) rfl
                have zf0 : wp.frozen? ⟨w.heap.size, 0, none⟩ = false := Bp.out.frozen 0 (by simp)
                have zc0 : wp.cell? ⟨w.heap.size, 0, none⟩ = some (.int .i64 0) := Bp.out.cell_some (i := 0) rfl
                have zf1 : wp.frozen? ⟨w.heap.size, 1, none⟩ = false := Bp.out.frozen 1 (by simp)
                have zc1 : wp.cell? ⟨w.heap.size, 1, none⟩ = some (.int .i64 0) := Bp.out.cell_some (i := 1) rfl
                have zf2 : wp.frozen? ⟨w.heap.size, 2, none⟩ = false := Bp.out.frozen 2 (by simp)
                have zc2 : wp.cell? ⟨w.heap.size, 2, none⟩ = some (.slice none 0 0) := Bp.out.cell_some (i := 2) rfl
                have ZB := Lib.hid (((Bp.out.set_ 0 (.int .i64 ep)).set_ 1 (.int .i64 (lg : Int))).set_ 2 (.slice (some ⟨w7.heap.size, 0, none⟩) n n))
                have ZO := Lib.hid (((((Only.of_below (S := []) Op.out).setCell (p := ⟨w.heap.size, 0, none⟩) (fun h => absurd h (by simp)) (.int .i64 ep)).setCell (p := ⟨w.heap.size, 1, none⟩) (fun h => absurd h (by simp)) (.int .i64 (lg : Int))).setCell (p := ⟨w.heap.size, 2, none⟩) (fun h => absurd h (by simp)) (.slice (some ⟨w7.heap.size, 0, none⟩) n n)).below_nil)
                have ZI := Lib.hid (Ip.out.only (((((Only.refl [w.heap.size] wp).setCell (p := ⟨w.heap.size, 0, none⟩) (fun _ => by simp) (.int .i64 ep)).setCell (p := ⟨w.heap.size, 1, none⟩) (fun _ => by simp) (.int .i64 (lg : Int))).setCell (p := ⟨w.heap.size, 2, none⟩) (fun _ => by simp) (.slice (some ⟨w7.heap.size, 0, none⟩) n n))) (fun ad h => by injection h with h; subst h; simp; omega))
                clear hbp KP
                go_wp2_with fail
                exact bodyPost_ret (ret_root2 rfl rfl ZB.out) rfl ⟨.inl ⟨HGD.out, some ⟨w7.heap.size, 0, none⟩, n, by first | rfl | (rw [HLG.out, HN.out]; rfl), by rw [HN.out, HPS.out]; exact ZI.out, by rw [HN.out]; exact Nat.le_refl _, fun ad h => by injection h with h; subst h; exact O7.out.size⟩, ZO.out⟩
              · have HNG := Lib.hid (show ¬ goodR v from fun hg => hu (by
                  have := hg.2.2
                  rw [HEP.out, HLG.out, HPS.out, ← HU.out] at this
                  rw [← hRS, this]))
                have q1 := toLb hu
                have q2 : ¬ RS.toList = u.toList := by simpa using q1
                clear hRS hu
                go_wp2_with fail
                generalize hwx : (wr.setCell ⟨w5.heap.size, 2, none⟩ (.slice (some ⟨w7.heap.size, 0, none⟩) n n)) = wx at *
                clear hwx r0 r1 r2 r3
                refine KP.out.mono ?_
                rintro e wp ⟨rfl, hbp⟩
                have Op := Lib.hid (bstep OX.out hbp)
                have Bp := Lib.hid (BX.out.below hbp BX.out.lt)
                clear hbp KP
                have zf0 : wp.frozen? ⟨w.heap.size, 0, none⟩ = false := Bp.out.frozen 0 (by simp)
                have zc0 : wp.cell? ⟨w.heap.size, 0, none⟩ = some (.int .i64 0) := Bp.out.cell_some (i := 0) rfl
                have zf1 : wp.frozen? ⟨w.heap.size, 1, none⟩ = false := Bp.out.frozen 1 (by simp)
                have zc1 : wp.cell? ⟨w.heap.size, 1, none⟩ = some (.int .i64 0) := Bp.out.cell_some (i := 1) rfl
                have zf2 : wp.frozen? ⟨w.heap.size, 2, none⟩ = false := Bp.out.frozen 2 (by simp)
                have zc2 : wp.cell? ⟨w.heap.size, 2, none⟩ = some (.slice none 0 0) := Bp.out.cell_some (i := 2) rfl
                have ZB := Lib.hid (((Bp.out.set_ 0 (.int .i64 0)).set_ 1 (.int .i64 0)).set_ 2 (.slice none 0 0))
                have ZO := Lib.hid (((((Only.of_below (S := []) Op.out).setCell (p := ⟨w.heap.size, 0, none⟩) (fun h => absurd h (by simp)) (.int .i64 0)).setCell (p := ⟨w.heap.size, 1, none⟩) (fun h => absurd h (by simp)) (.int .i64 0)).setCell (p := ⟨w.heap.size, 2, none⟩) (fun h => absurd h (by simp)) (.slice none 0 0)).below_nil)
                go_wp2_with fail
                exact bodyPost_ret (ret_root2 rfl rfl ZB.out) rfl ⟨.inr ⟨HNG.out, rfl⟩, ZO.out⟩
            · have KP := Lib.hid (rput_no (w := (wr.setCell ⟨w5.heap.size, 2, none⟩ (.slice (some ⟨w7.heap.size, 0, none⟩) n n))) ep (lg : Int) (some ⟨w7.heap.size, 0, none⟩) n n (natI Ps) IX.out (by omega) (Nat.le_refl _) hr)
              unfold rootV at KP
              have HNG := Lib.hid (show ¬ goodR v from fun hg => hr (by
                have := hg.2.1
                rw [HEP.out, HLG.out, HPS.out] at this
                exact this))
              clear hr
              go_wp2_with fail
              generalize hwx : (wr.setCell ⟨w5.heap.size, 2, none⟩ (.slice (some ⟨w7.heap.size, 0, none⟩) n n)) = wx at *
              clear hwx r0 r1 r2 r3
              refine KP.out.mono ?_
              rintro e wp ⟨rfl, hbp⟩
              have Op := Lib.hid (bstep OX.out hbp)
              have Bp := Lib.hid (BX.out.below hbp BX.out.lt)
              clear hbp KP
              have zf0 : wp.frozen? ⟨w.heap.size, 0, none⟩ = false := Bp.out.frozen 0 (by simp)
              have zc0 : wp.cell? ⟨w.heap.size, 0, none⟩ = some (.int .i64 0) := Bp.out.cell_some (i := 0) rfl
              have zf1 : wp.frozen? ⟨w.heap.size, 1, none⟩ = false := Bp.out.frozen 1 (by simp)
              have zc1 : wp.cell? ⟨w.heap.size, 1, none⟩ = some (.int .i64 0) := Bp.out.cell_some (i := 1) rfl
              have zf2 : wp.frozen? ⟨w.heap.size, 2, none⟩ = false := Bp.out.frozen 2 (by simp)
              have zc2 : wp.cell? ⟨w.heap.size, 2, none⟩ = some (.slice none 0 0) := Bp.out.cell_some (i := 2) rfl
              have ZB := Lib.hid (((Bp.out.set_ 0 (.int .i64 0)).set_ 1 (.int .i64 0)).set_ 2 (.slice none 0 0))
              have ZO := Lib.hid (((((Only.of_below (S := []) Op.out).setCell (p := ⟨w.heap.size, 0, none⟩) (fun h => absurd h (by simp)) (.int .i64 0)).setCell (p := ⟨w.heap.size, 1, none⟩) (fun h => absurd h (by simp)) (.int .i64 0)).setCell (p := ⟨w.heap.size, 2, none⟩) (fun h => absurd h (by simp)) (.slice none 0 0)).below_nil)
              go_wp2_with fail
              exact bodyPost_ret (ret_root2 rfl rfl ZB.out) rfl ⟨.inr ⟨HNG.out, rfl⟩, ZO.out⟩
      · have hn5I : (5 : Int) < (n : Int) := by omega
        have HNG := Lib.hid (show ¬ goodR v from fun hg => hn5 (by rw [← HN.out]; exact hg.1))
        clear hn5
        have zf0 : w7.frozen? ⟨w.heap.size, 0, none⟩ = false := B7.out.frozen 0 (by simp)
        have zc0 : w7.cell? ⟨w.heap.size, 0, none⟩ = some (.int .i64 0) := B7.out.cell_some (i := 0) rfl
        have zf1 : w7.frozen? ⟨w.heap.size, 1, none⟩ = false := B7.out.frozen 1 (by simp)
        have zc1 : w7.cell? ⟨w.heap.size, 1, none⟩ = some (.int .i64 0) := B7.out.cell_some (i := 1) rfl
        have zf2 : w7.frozen? ⟨w.heap.size, 2, none⟩ = false := B7.out.frozen 2 (by simp)
        have zc2 : w7.cell? ⟨w.heap.size, 2, none⟩ = some (.slice none 0 0) := B7.out.cell_some (i := 2) rfl
        have ZB := Lib.hid (((B7.out.set_ 0 (.int .i64 0)).set_ 1 (.int .i64 0)).set_ 2 (.slice none 0 0))
        have ZO := Lib.hid (((((Only.of_below (S := []) O7.out).setCell (p := ⟨w.heap.size, 0, none⟩) (fun h => absurd h (by simp)) (.int .i64 0)).setCell (p := ⟨w.heap.size, 1, none⟩) (fun h => absurd h (by simp)) (.int .i64 0)).setCell (p := ⟨w.heap.size, 2, none⟩) (fun h => absurd h (by simp)) (.slice none 0 0)).below_nil)
        go_wp2_with fail
        exact bodyPost_ret (ret_root2 rfl rfl ZB.out) rfl ⟨.inr ⟨HNG.out, rfl⟩, ZO.out⟩
    · have he2 : (ep == ep2) = false := by simpa using hee
      have HNG := Lib.hid (show ¬ goodR v from fun hg => hee (HG2.out hg))
      clear HG2
      generalize hw4 : (w3.alloc (.cells #[.string Tm] 9)) = w4 at *
      have zf0 : w4.frozen? ⟨w.heap.size, 0, none⟩ = false := B4.out.frozen 0 (by simp)
      have zc0 : w4.cell? ⟨w.heap.size, 0, none⟩ = some (.int .i64 0) := B4.out.cell_some (i := 0) rfl
      have zf1 : w4.frozen? ⟨w.heap.size, 1, none⟩ = false := B4.out.frozen 1 (by simp)
      have zc1 : w4.cell? ⟨w.heap.size, 1, none⟩ = some (.int .i64 0) := B4.out.cell_some (i := 1) rfl
      have zf2 : w4.frozen? ⟨w.heap.size, 2, none⟩ = false := B4.out.frozen 2 (by simp)
      have zc2 : w4.cell? ⟨w.heap.size, 2, none⟩ = some (.slice none 0 0) := B4.out.cell_some (i := 2) rfl
      have ZB := Lib.hid (((B4.out.set_ 0 (.int .i64 0)).set_ 1 (.int .i64 0)).set_ 2 (.slice none 0 0))
      have ZO := Lib.hid (((((Only.of_below (S := []) O4.out).setCell (p := ⟨w.heap.size, 0, none⟩) (fun h => absurd h (by simp)) (.int .i64 0)).setCell (p := ⟨w.heap.size, 1, none⟩) (fun h => absurd h (by simp)) (.int .i64 0)).setCell (p := ⟨w.heap.size, 2, none⟩) (fun h => absurd h (by simp)) (.slice none 0 0)).below_nil)
      go_wp2_with fail
      exact bodyPost_ret (ret_root2 rfl rfl ZB.out) rfl ⟨.inr ⟨HNG.out, rfl⟩, ZO.out⟩
  · have KC := Lib.hid (fun w => Crc.cut_corrupt T w (by omega) (by unfold maxLen; omega) hc)
    have HNG := Lib.hid (show ¬ goodR v from fun hg => hc (by rw [hTl]; exact (good_crc hg).1))
    clear hc hTl hep hep2 hd0 hd1 hv
    go_enter Try.func8, Try.ntmps8
    go_wp2_with fail
    refine (K0.out _).mono ?_
    rintro e w1 ⟨rfl, hb1⟩
    have O1 := Lib.hid (bstep O0.out hb1)
    have B1 := Lib.hid (B0.out.below hb1 B0.out.lt)
    clear hb1
    go_wp2_with fail
    refine (K1.out _).mono ?_
    rintro e w2 ⟨rfl, hb2⟩
    have O2 := Lib.hid (bstep O1.out hb2)
    have B2 := Lib.hid (B1.out.below hb2 B1.out.lt)
    clear hb2
    go_wp2_with fail
    refine (KC.out _).mono ?_
    rintro e w3 ⟨rfl, hb3⟩
    have a4 := belowAlloc (Below.refl w3.heap.size w3) (.cells #[.string ⟨#[]⟩] 9)
    have O4 := Lib.hid (bstep (bstep O2.out hb3) a4)
    have B4 := Lib.hid ((B2.out.below hb3 B2.out.lt).alloc (.cells #[.string ⟨#[]⟩] 9))
    clear hb3 a4 KC
    by_cases hee : ep = ep2
    · subst hee
      have zf0 : (w3.alloc (.cells #[.string ⟨#[]⟩] 9)).frozen? ⟨w.heap.size, 0, none⟩ = false := B4.out.frozen 0 (by simp)
      have zc0 : (w3.alloc (.cells #[.string ⟨#[]⟩] 9)).cell? ⟨w.heap.size, 0, none⟩ = some (.int .i64 0) := B4.out.cell_some (i := 0) rfl
      have zf1 : (w3.alloc (.cells #[.string ⟨#[]⟩] 9)).frozen? ⟨w.heap.size, 1, none⟩ = false := B4.out.frozen 1 (by simp)
      have zc1 : (w3.alloc (.cells #[.string ⟨#[]⟩] 9)).cell? ⟨w.heap.size, 1, none⟩ = some (.int .i64 0) := B4.out.cell_some (i := 1) rfl
      have zf2 : (w3.alloc (.cells #[.string ⟨#[]⟩] 9)).frozen? ⟨w.heap.size, 2, none⟩ = false := B4.out.frozen 2 (by simp)
      have zc2 : (w3.alloc (.cells #[.string ⟨#[]⟩] 9)).cell? ⟨w.heap.size, 2, none⟩ = some (.slice none 0 0) := B4.out.cell_some (i := 2) rfl
      have ZB := Lib.hid (((B4.out.set_ 0 (.int .i64 0)).set_ 1 (.int .i64 0)).set_ 2 (.slice none 0 0))
      have ZO := Lib.hid (((((Only.of_below (S := []) O4.out).setCell (p := ⟨w.heap.size, 0, none⟩) (fun h => absurd h (by simp)) (.int .i64 0)).setCell (p := ⟨w.heap.size, 1, none⟩) (fun h => absurd h (by simp)) (.int .i64 0)).setCell (p := ⟨w.heap.size, 2, none⟩) (fun h => absurd h (by simp)) (.slice none 0 0)).below_nil)
      go_wp2_with fail
      exact bodyPost_ret (ret_root2 rfl rfl ZB.out) rfl ⟨.inr ⟨HNG.out, rfl⟩, ZO.out⟩
    · have he2 : (ep == ep2) = false := by simpa using hee
      have zf0 : (w3.alloc (.cells #[.string ⟨#[]⟩] 9)).frozen? ⟨w.heap.size, 0, none⟩ = false := B4.out.frozen 0 (by simp)
      have zc0 : (w3.alloc (.cells #[.string ⟨#[]⟩] 9)).cell? ⟨w.heap.size, 0, none⟩ = some (.int .i64 0) := B4.out.cell_some (i := 0) rfl
      have zf1 : (w3.alloc (.cells #[.string ⟨#[]⟩] 9)).frozen? ⟨w.heap.size, 1, none⟩ = false := B4.out.frozen 1 (by simp)
      have zc1 : (w3.alloc (.cells #[.string ⟨#[]⟩] 9)).cell? ⟨w.heap.size, 1, none⟩ = some (.int .i64 0) := B4.out.cell_some (i := 1) rfl
      have zf2 : (w3.alloc (.cells #[.string ⟨#[]⟩] 9)).frozen? ⟨w.heap.size, 2, none⟩ = false := B4.out.frozen 2 (by simp)
      have zc2 : (w3.alloc (.cells #[.string ⟨#[]⟩] 9)).cell? ⟨w.heap.size, 2, none⟩ = some (.slice none 0 0) := B4.out.cell_some (i := 2) rfl
      have ZB := Lib.hid (((B4.out.set_ 0 (.int .i64 0)).set_ 1 (.int .i64 0)).set_ 2 (.slice none 0 0))
      have ZO := Lib.hid (((((Only.of_below (S := []) O4.out).setCell (p := ⟨w.heap.size, 0, none⟩) (fun h => absurd h (by simp)) (.int .i64 0)).setCell (p := ⟨w.heap.size, 1, none⟩) (fun h => absurd h (by simp)) (.int .i64 0)).setCell (p := ⟨w.heap.size, 2, none⟩) (fun h => absurd h (by simp)) (.slice none 0 0)).below_nil)
      go_wp2_with fail
      exact bodyPost_ret (ret_root2 rfl rfl ZB.out) rfl ⟨.inr ⟨HNG.out, rfl⟩, ZO.out⟩
end Go.Proofs.Ytemcamhkacaoiaa.Rt
