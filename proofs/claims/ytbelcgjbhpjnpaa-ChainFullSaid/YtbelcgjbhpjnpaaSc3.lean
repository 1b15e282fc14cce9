/- chain by its contracts: walk. -/
import Derived.Test.YtbelcgjbhpjnpaaSc2
namespace Go.Proofs.Ytbelcgjbhpjnpaa.Sh
open Go.RowKit Pk Dk Pg
attribute [local go_sem ↓] Go.wp_at_zero Go.wp_at_succ exec_app exec_appS
/-- a chain gone through from a page on, with so many pages at most -/
def St.walkF (a : St) : Nat → Int → List Int → List UInt8 → List Int × List UInt8 × Int
  | 0, _, _, _ => ([], [], 14)
  | m + 1, at_, l, b =>
    if (a.readC at_).2.2 = 3 ∧ 0 < l.length then ([], [], 14)
    else if (a.readC at_).2.2 ≠ 0 then ([], [], (a.readC at_).2.2)
    else if 1024 < (b ++ (a.readC at_).2.1).length then ([], [], 14)
    else if (a.readC at_).1 < 0 then (l ++ [at_], b ++ (a.readC at_).2.1, 0)
    else a.walkF m (a.readC at_).1 (l ++ [at_]) (b ++ (a.readC at_).2.1)
def St.cwalkF (a : St) (first : Int) : List Int × List UInt8 × Int := a.walkF 5 first [] []
theorem readC_bd (a : St) (l : Int) : (a.readC l).1 ≤ 65534 ∧ -1 ≤ (a.readC l).1 ∧ (a.readC l).2.1.length ≤ 228 := by
  unfold St.readC
  split
  · exact ⟨by show (0 : Int) ≤ _; omega, by show (-1 : Int) ≤ 0; omega, by show 0 ≤ 228; omega⟩
  · split
    · exact ⟨by show (0 : Int) ≤ _; omega, by show (-1 : Int) ≤ 0; omega, by show 0 ≤ 228; omega⟩
    · refine ⟨?_, ?_, ?_⟩
      · show (at2 _ 0 : Int) - 1 ≤ _
        unfold at2
        have := (List.getD (a.readF l).1 0 0).toNat_lt
        have := (List.getD (a.readF l).1 (0 + 1) 0).toNat_lt
        omega
      · show -1 ≤ (at2 _ 0 : Int) - 1
        omega
      · rw [List.length_take]; omega
theorem slc_own {w : World} {e : TypeId} {z n : Nat} {v : Value} {l : List Value} (h : Slc w e z v n l) : ∀ g ∈ ownB v, ∃ cs, Blk w g e cs := by
  rcases h.2 with ⟨rfl, _⟩ | ⟨g, cap, rest, rfl, B, _⟩
  · simp [ownB]
  · intro x hx
    simp only [ownB, List.mem_singleton] at hx
    exact ⟨_, by rw [hx]; exact B⟩
theorem slc_apart {w : World} {e t : TypeId} {z y n m : Nat} {v u : Value} {l k : List Value} (h : Slc w e z v n l) (h' : Slc w t y u m k) (hne : e ≠ t) : ∀ g ∈ ownB v, g ∉ ownB u := fun g hg hu => by
  obtain ⟨cs, B⟩ := slc_own h g hg
  exact slc_ne h' B hne hu
set_option maxRecDepth 100000 in
set_option maxHeartbeats 4000000 in
theorem cwalk_any {w : World} {pb sb : Nat} {F : List Nat} {a : St} {k : Int} (h : AtQ w pb sb F a k) (p : Int) :
    Calls Try.prog 27 #[pp pb, .int .i64 p] w fun e w' => ∃ A n c, e = .returned (.tuple #[.slice A n c, .string ⟨(a.cwalkF p).2.1.toArray⟩, .int .i64 (a.cwalkF p).2.2]) ∧ Slc w' 3 1 (.slice A n c) (a.cwalkF p).1.length (nvs' (a.cwalkF p).1) ∧ AtQ w' pb sb F a k ∧ Only F w w' ∧ ∀ g ∈ ownB (.slice A n c), w.heap.size ≤ g := by
  have KN := Lib.hid (cneed_any 1024 (by omega))
  rw [show cneedF 1024 = 5 from rfl] at KN
  have KR := Lib.hid (fun (W : World) (hW : AtQ W pb sb F a k) (q : Int) => cread_any hW q)
  have HLT := Lib.hid h.lt
  obtain ⟨R, hR⟩ : ∃ R, a.cwalkF p = R := ⟨_, rfl⟩
  rw [hR]
  have HQ := Lib.hid h
  unfold St.cwalkF at hR
  have HR := Lib.hid hR
  clear h hR
  unfold linkV at KR
  unfold pp at *
  go_enter Try.func27, Try.ntmps27
  go_wp2_with fail
  refine (KN.out _).mono ?_
  rintro e w1 ⟨rfl, rfl⟩
  go_wp2_with fail
  go_loopw [7, 8, 9, 16] (fun lv bv av iv wr => ∃ (i : Nat) (l : List Int) (b : List UInt8) (at_ : Int), i ≤ 5 ∧ l.length = i ∧ iv = .int .i64 i ∧ av = .int .i64 at_ ∧ b.length ≤ 1024 ∧ Slc wr 3 1 lv i (nvs' l) ∧ Slc wr 5 1 bv b.length (bvs b) ∧ Hid (a.walkF (5 - i) at_ l b = R) ∧ Hid (AtQ wr pb sb F a k ∧ Only F w wr ∧ (∀ g ∈ ownB lv, w.heap.size ≤ g) ∧ (∀ g ∈ ownB bv, w.heap.size ≤ g))) (fun _ _ _ iv _ => 5 - (intOf iv).toNat)
  case atStart => exact ⟨0, [], [], p, by omega, rfl, rfl, rfl, by simp, Slc.nil _ _ _, Slc.nil _ _ _, HR, Lib.hid ⟨HQ.out, Only.refl _ _, by simp [ownB], by simp [ownB]⟩⟩
  case round =>
    obtain ⟨i, l, b, at_, hi, hl, rfl, rfl, hb, S1, S2, HW, HA⟩ := hrel
    obtain ⟨VA, vc, rfl⟩ := slc_val S1
    obtain ⟨VB, vb, rfl⟩ := slc_val S2
    by_cases h5 : i < 5
    · have K1 := Lib.hid (KR.out wr HA.out.1 at_)
      obtain ⟨bd1, bd2, bd3⟩ := readC_bd a at_
      have HW := HW.out
      rw [show 5 - i = (5 - (i + 1)) + 1 by omega] at HW
      unfold St.walkF at HW
      rw [hl] at HW
      generalize a.readC at_ = r at *
      obtain ⟨nx, pc, er⟩ := r
      dsimp only at *
      by_cases he : er = 0
      · subst he
        rw [if_neg (by omega), if_neg (by simp)] at HW
        have W2 := Lib.hid (show ∀ w2, AtQ w2 pb sb F a k → Only F wr w2 → AtQ (w2.alloc (.cells #[.int .i64 nx, .string ⟨pc.toArray⟩] 95)) pb sb F a k ∧ Only F w (w2.alloc (.cells #[.int .i64 nx, .string ⟨pc.toArray⟩] 95)) ∧
            Slc (w2.alloc (.cells #[.int .i64 nx, .string ⟨pc.toArray⟩] 95)) 3 1 (.slice VA i vc) i (nvs' l) ∧ Slc (w2.alloc (.cells #[.int .i64 nx, .string ⟨pc.toArray⟩] 95)) 5 1 (.slice VB b.length vb) b.length (bvs b) ∧ Blk (w2.alloc (.cells #[.int .i64 nx, .string ⟨pc.toArray⟩] 95)) w2.heap.size 95 #[.int .i64 nx, .string ⟨pc.toArray⟩] ∧ w2.heap.size ∉ ownB (.slice VA i vc) ∧ w2.heap.size ∉ ownB (.slice VB b.length vb) from fun w2 A2 o2 => by
          obtain ⟨a1, a2, a3, a4⟩ := HA.out
          have U := belowAlloc (Below.refl w2.heap.size w2) (.cells #[.int .i64 nx, .string ⟨pc.toArray⟩] 95)
          have s1 := S1.only o2 (fun g hg hF => by have := HLT.out g hF; have := a3 g hg; omega)
          have s2 := S2.only o2 (fun g hg hF => by have := HLT.out g hF; have := a4 g hg; omega)
          exact ⟨A2.below U, (a2.trans o2).trans (.of_below U), s1.below U, s2.below U, Blk.new _ _ _, fun hg => by have := s1.lt _ hg; omega, fun hg => by have := s2.lt _ hg; omega⟩)
        by_cases hL : 1024 < (b ++ pc).length
        · rw [if_pos hL] at HW
          subst HW
          rw [List.length_append] at hL
          go_wp2_with fail
          refine K1.out.mono ?_
          rintro e w2 ⟨rfl, A2, o2⟩
          obtain ⟨A3, o3, s1, s2, LK, n1, n2⟩ := W2.out w2 A2 o2
          obtain ⟨v', w4, ea, S4, ow, fr⟩ := append_one (P := Try.prog) s1 34 34 (.int .i64 0) 8 Try.underlying34 info_int2 rfl (.int .i64 at_) rfl (by unfold maxLen; omega) (by omega)
          have s4 := s2.only ow (slc_apart s2 s1 (by decide))
          have L4 := LK.only ow n1
          have A4 := A3.only ow (fun g hF hg => by have := HLT.out g hF; have := HA.out.2.2.1 g hg; omega)
          obtain ⟨u', w5, eb, S5, ov, fv⟩ := append_str (P := Try.prog) s4 65 9 65 Try.underlying65 Try.underlying9 Crc.info_u8 ⟨pc.toArray⟩ (by show _ + pc.toArray.size ≤ _; simp; omega)
          have S6 := S4.only ov (fun g hg => slc_apart S4 s4 (by decide) g hg)
          have L6 := L4.only ov n2
          have A6 := Lib.hid (A4.only ov (fun g hF hg => by have := HLT.out g hF; have := HA.out.2.2.2 g hg; omega))
          have k1 := L4.cell_some (i := 1) rfl
          have k0 := L6.cell_some (i := 0) rfl
          have O6 := Lib.hid (show Only F w w5 from ((o3.trans_of ow (fun g hg hlt => by have := HA.out.2.2.1 g hg; omega)).trans_of ov (fun g hg hlt => by have := HA.out.2.2.2 g hg; omega)))
          have F4 := Lib.hid (show ∀ g ∈ ownB v', w.heap.size ≤ g from fun g hg => (fr g hg).elim (HA.out.2.2.1 g) (fun h => by have := o3.size; omega))
          have F5 := Lib.hid (show ∀ g ∈ ownB u', w.heap.size ≤ g from fun g hg => (fv g hg).elim (HA.out.2.2.2 g) (fun h => by have := o3.size; have := ow.size; omega))
          obtain ⟨V4, c4, rfl⟩ := slc_val S4
          rw [show (⟨pc.toArray⟩ : ByteArray).size = pc.length from by show pc.toArray.size = _; simp, show (⟨pc.toArray⟩ : ByteArray).data.toList = pc from rfl, ← bvs_append] at S5
          obtain ⟨V5, c5, rfl⟩ := slc_val S5
          have SV := Lib.hid (show Slc w5 5 1 (.slice V5 (b.length + pc.length) c5) (b ++ pc).length (bvs (b ++ pc)) from by rw [List.length_append]; exact S5)
          have CV := Lib.hid (str_slc (P := Try.prog) S5.drew 65 9 Try.underlying65 Try.underlying5 Try.underlying9)
          rw [World.size_alloc] at ea
          have EA := Lib.hid ea
          have EB := Lib.hid eb
          clear ea eb ow ov fr fv S4 s4 L4 A4 L6 LK A3 A2 o2 o3 s1 s2 n1 n2
          go_wp2_with fail
          rw [EA.out]
          go_wp2_with fail
          rw [EB.out]
          go_wp2_with fail
          go_ret3
          exact ⟨none, 0, 0, by first | rfl | simp, Slc.nil _ _ _, A6.out, O6.out, by simp [ownB]⟩
        · rw [if_neg hL] at HW
          have hL2 : b.length + pc.length ≤ 1024 := by rw [List.length_append] at hL; omega
          by_cases hn : nx < 0
          · rw [if_pos hn] at HW
            subst HW
            go_wp2_with fail
            refine K1.out.mono ?_
            rintro e w2 ⟨rfl, A2, o2⟩
            obtain ⟨A3, o3, s1, s2, LK, n1, n2⟩ := W2.out w2 A2 o2
            obtain ⟨v', w4, ea, S4, ow, fr⟩ := append_one (P := Try.prog) s1 34 34 (.int .i64 0) 8 Try.underlying34 info_int2 rfl (.int .i64 at_) rfl (by unfold maxLen; omega) (by omega)
            have s4 := s2.only ow (slc_apart s2 s1 (by decide))
            have L4 := LK.only ow n1
            have A4 := A3.only ow (fun g hF hg => by have := HLT.out g hF; have := HA.out.2.2.1 g hg; omega)
            obtain ⟨u', w5, eb, S5, ov, fv⟩ := append_str (P := Try.prog) s4 65 9 65 Try.underlying65 Try.underlying9 Crc.info_u8 ⟨pc.toArray⟩ (by show _ + pc.toArray.size ≤ _; simp; omega)
            have S6 := S4.only ov (fun g hg => slc_apart S4 s4 (by decide) g hg)
            have L6 := L4.only ov n2
            have A6 := Lib.hid (A4.only ov (fun g hF hg => by have := HLT.out g hF; have := HA.out.2.2.2 g hg; omega))
            have k1 := L4.cell_some (i := 1) rfl
            have k0 := L6.cell_some (i := 0) rfl
            have O6 := Lib.hid (show Only F w w5 from ((o3.trans_of ow (fun g hg hlt => by have := HA.out.2.2.1 g hg; omega)).trans_of ov (fun g hg hlt => by have := HA.out.2.2.2 g hg; omega)))
            have F4 := Lib.hid (show ∀ g ∈ ownB v', w.heap.size ≤ g from fun g hg => (fr g hg).elim (HA.out.2.2.1 g) (fun h => by have := o3.size; omega))
            have F5 := Lib.hid (show ∀ g ∈ ownB u', w.heap.size ≤ g from fun g hg => (fv g hg).elim (HA.out.2.2.2 g) (fun h => by have := o3.size; have := ow.size; omega))
            obtain ⟨V4, c4, rfl⟩ := slc_val S4
            rw [show (⟨pc.toArray⟩ : ByteArray).size = pc.length from by show pc.toArray.size = _; simp, show (⟨pc.toArray⟩ : ByteArray).data.toList = pc from rfl, ← bvs_append] at S5
            obtain ⟨V5, c5, rfl⟩ := slc_val S5
            have SV := Lib.hid (show Slc w5 5 1 (.slice V5 (b.length + pc.length) c5) (b ++ pc).length (bvs (b ++ pc)) from by rw [List.length_append]; exact S5)
            have CV := Lib.hid (str_slc (P := Try.prog) S5.drew 65 9 Try.underlying65 Try.underlying5 Try.underlying9)
            rw [World.size_alloc] at ea
            have EA := Lib.hid ea
            have EB := Lib.hid eb
            clear ea eb ow ov fr fv S4 s4 L4 A4 L6 LK A3 A2 o2 o3 s1 s2 n1 n2
            go_wp2_with fail
            rw [EA.out]
            go_wp2_with fail
            rw [EB.out]
            go_wp2_with fail
            have CV := CV.out
            go_region
            go_wp2_with fail
            go_ret3
            exact ⟨V4, i + 1, c4, by first | rfl | simp, by rw [nvs'_append]; first | exact S6.drew | (rw [List.length_append, hl]; exact S6.drew), A6.out.below ((Below.refl _ _).drew), O6.out.drew, F4.out⟩
          · rw [if_neg hn] at HW
            have HW := Lib.hid HW
            go_wp2_with fail
            refine K1.out.mono ?_
            rintro e w2 ⟨rfl, A2, o2⟩
            obtain ⟨A3, o3, s1, s2, LK, n1, n2⟩ := W2.out w2 A2 o2
            obtain ⟨v', w4, ea, S4, ow, fr⟩ := append_one (P := Try.prog) s1 34 34 (.int .i64 0) 8 Try.underlying34 info_int2 rfl (.int .i64 at_) rfl (by unfold maxLen; omega) (by omega)
            have s4 := s2.only ow (slc_apart s2 s1 (by decide))
            have L4 := LK.only ow n1
            have A4 := A3.only ow (fun g hF hg => by have := HLT.out g hF; have := HA.out.2.2.1 g hg; omega)
            obtain ⟨u', w5, eb, S5, ov, fv⟩ := append_str (P := Try.prog) s4 65 9 65 Try.underlying65 Try.underlying9 Crc.info_u8 ⟨pc.toArray⟩ (by show _ + pc.toArray.size ≤ _; simp; omega)
            have S6 := S4.only ov (fun g hg => slc_apart S4 s4 (by decide) g hg)
            have L6 := L4.only ov n2
            have A6 := Lib.hid (A4.only ov (fun g hF hg => by have := HLT.out g hF; have := HA.out.2.2.2 g hg; omega))
            have k1 := L4.cell_some (i := 1) rfl
            have k0 := L6.cell_some (i := 0) rfl
            have O6 := Lib.hid (show Only F w w5 from ((o3.trans_of ow (fun g hg hlt => by have := HA.out.2.2.1 g hg; omega)).trans_of ov (fun g hg hlt => by have := HA.out.2.2.2 g hg; omega)))
            have F4 := Lib.hid (show ∀ g ∈ ownB v', w.heap.size ≤ g from fun g hg => (fr g hg).elim (HA.out.2.2.1 g) (fun h => by have := o3.size; omega))
            have F5 := Lib.hid (show ∀ g ∈ ownB u', w.heap.size ≤ g from fun g hg => (fv g hg).elim (HA.out.2.2.2 g) (fun h => by have := o3.size; have := ow.size; omega))
            obtain ⟨V4, c4, rfl⟩ := slc_val S4
            rw [show (⟨pc.toArray⟩ : ByteArray).size = pc.length from by show pc.toArray.size = _; simp, show (⟨pc.toArray⟩ : ByteArray).data.toList = pc from rfl, ← bvs_append] at S5
            obtain ⟨V5, c5, rfl⟩ := slc_val S5
            have SV := Lib.hid (show Slc w5 5 1 (.slice V5 (b.length + pc.length) c5) (b ++ pc).length (bvs (b ++ pc)) from by rw [List.length_append]; exact S5)
            have CV := Lib.hid (str_slc (P := Try.prog) S5.drew 65 9 Try.underlying65 Try.underlying5 Try.underlying9)
            rw [World.size_alloc] at ea
            have EA := Lib.hid ea
            have EB := Lib.hid eb
            clear ea eb ow ov fr fv S4 s4 L4 A4 L6 LK A3 A2 o2 o3 s1 s2 n1 n2
            go_wp2_with fail
            rw [EA.out]
            go_wp2_with fail
            rw [EB.out]
            go_wp2_with fail
            go_roundw
            case rel => exact ⟨i + 1, l ++ [at_], b ++ pc, nx, by omega, by simp [hl], by go_num, rfl, by rw [List.length_append]; exact hL2, by rw [nvs'_append]; exact S6, SV.out, HW, Lib.hid ⟨A6.out, O6.out, F4.out, F5.out⟩⟩
            case measure => simp [intOf]; omega
      · have hq : (er != 0) = true := by rw [bne_iff_ne]; exact he
        have hq2 : (er == 0) = false := by rw [beq_eq_false_iff_ne]; exact he
        have W2 := Lib.hid (show ∀ w2, AtQ w2 pb sb F a k → Only F wr w2 → AtQ (w2.alloc (.cells #[.int .i64 nx, .string ⟨pc.toArray⟩] 95)) pb sb F a k ∧ Only F w (w2.alloc (.cells #[.int .i64 nx, .string ⟨pc.toArray⟩] 95)) from fun w2 A2 o2 => by
          obtain ⟨a1, a2, a3, a4⟩ := HA.out
          have U := belowAlloc (Below.refl w2.heap.size w2) (.cells #[.int .i64 nx, .string ⟨pc.toArray⟩] 95)
          exact ⟨A2.below U, (a2.trans o2).trans (.of_below U)⟩)
        by_cases h3 : er = 3 ∧ 0 < i
        · rw [if_pos h3] at HW
          subst HW
          obtain ⟨rfl, h3⟩ := h3
          go_wp2_with fail
          refine K1.out.mono ?_
          rintro e w2 ⟨rfl, A2, o2⟩
          obtain ⟨A3, o3⟩ := W2.out w2 A2 o2
          have A3 := Lib.hid A3
          have o3 := Lib.hid o3
          clear A2 o2
          go_wp2_with fail
          go_ret3
          exact ⟨none, 0, 0, by first | rfl | simp, Slc.nil _ _ _, A3.out, o3.out, by simp [ownB]⟩
        · rw [if_neg h3, if_pos he] at HW
          subst HW
          have h33 : er = 3 → ¬ 0 < i := fun e h => h3 ⟨e, h⟩
          have hq3 : i = 0 ∨ ((er == 3) = false ∧ er ≠ 3) := by
            by_cases e : er = 3
            · exact .inl (by have := h33 e; omega)
            · exact .inr ⟨by rw [beq_eq_false_iff_ne]; exact e, e⟩
          rcases hq3 with hi0 | ⟨hq3, hq4⟩
          all_goals
            clear h33 h3
            go_wp2_with fail
            refine K1.out.mono ?_
            rintro e w2 ⟨rfl, A2, o2⟩
            obtain ⟨A3, o3⟩ := W2.out w2 A2 o2
            have A3 := Lib.hid A3
            have o3 := Lib.hid o3
            clear A2 o2
            go_wp2_with fail
            all_goals
              go_ret3
              exact ⟨none, 0, 0, by first | rfl | simp, Slc.nil _ _ _, A3.out, o3.out, by simp [ownB]⟩
    · have HW := HW.out
      rw [show 5 - i = 0 by omega] at HW
      unfold St.walkF at HW
      subst HW
      go_wp2_with fail
      go_ret3
      exact ⟨none, 0, 0, by first | rfl | simp, Slc.nil _ _ _, HA.out.1, HA.out.2.1, by simp [ownB]⟩
end Go.Proofs.Ytbelcgjbhpjnpaa.Sh
