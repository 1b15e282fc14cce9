/- roots: a part of a table, read. -/
import Derived.Test.YtemcamhkacaoiaaRt10
import Derived.Test.YtemcamhkacaoiaaRt5
namespace Go.Proofs.Ytemcamhkacaoiaa.Rt
open Go.RowKit Pk
attribute [local go_sem ↓] Go.wp_at_zero Go.wp_at_succ exec_app
theorem info_int1 : (Try.prog.info? 3).map (fun i => (i.zero, i.size, i.bytes)) = some (some (.int .i64 0), 1, 8) := by kernel_rfl
/-- numbers as values -/
def nvs (l : List Int) : List Value := l.map (Value.int .i64)
@[simp] theorem nvs_length (l : List Int) : (nvs l).length = l.length := by simp [nvs]
def getF (T : List UInt8) (m : Nat) : List Int := (List.range m).map fun j => (at2 T (2 * j) : Int) - 1
theorem getF_succ (T : List UInt8) (m : Nat) : getF T (m + 1) = getF T m ++ [(at2 T (2 * m) : Int) - 1] := by
  unfold getF
  rw [List.range_succ, List.map_append]; rfl
@[simp] theorem getF_length (T : List UInt8) (m : Nat) : (getF T m).length = m := by simp [getF]
set_option maxRecDepth 100000 in
set_option maxHeartbeats 4000000 in
theorem getpart_any (T : ByteArray) (m : Nat) (hm : m ≤ 116) (hT : 2 * m ≤ T.size) (hs : T.size ≤ 1000000) (w : World) :
    Calls Try.prog 13 #[.string T, .int .i64 (m : Nat)] w fun e w' => (((∃ j, j < m ∧ 1024 < at2 T.data.toList (2 * j)) ∧ e = .returned (.tuple #[.slice none 0 0, .int .i64 14])) ∨ ((∀ j, j < m → at2 T.data.toList (2 * j) ≤ 1024) ∧ ∃ v, e = .returned (.tuple #[v, .int .i64 0]) ∧ Slc w' 3 1 v m (nvs (getF T.data.toList m)) ∧ ∀ g ∈ ownB v, w.heap.size ≤ g)) ∧ Below w.heap.size w w' := by
  have h1 : ¬ (m : Int) < 0 := by omega
  have h2 : ¬ (116 : Int) < (m : Int) := by omega
  have e1 : IntKind.i64.wrap (2 * (m : Int)) = 2 * (m : Int) := IntWalk.i64_in _ (by omega)
  have h3 : ¬ (T.size : Int) < 2 * (m : Int) := by omega
  go_enter Try.func13, Try.ntmps13
  go_wp2_with fail
  go_loopw [6, 23] (fun bv iv wr => ∃ i : Nat, i ≤ m ∧ iv = .int .i64 i ∧ Slc wr 3 1 bv i (nvs (getF T.data.toList i)) ∧ Hid (∀ j, j < i → at2 T.data.toList (2 * j) ≤ 1024) ∧ Below w.heap.size w wr ∧ Hid (∀ g ∈ ownB bv, w.heap.size ≤ g)) (fun _ iv _ => m - (intOf iv).toNat)
  case atStart => exact ⟨0, Nat.zero_le _, rfl, Slc.nil _ _ _, Lib.hid (by intro j hj; omega), Below.refl _ _, Lib.hid (by simp [ownB])⟩
  case round =>
    obtain ⟨i, hi, rfl, S, GD, O, F⟩ := hrel
    by_cases h' : i < m
    · have hiI : (i : Int) < (m : Int) := by omega
      have h0 : 2 * i < T.size := by omega
      have hk : 2 * i + 1 < T.size := by omega
      have b0 := T[2 * i].toNat_lt
      have b1 := T[2 * i + 1].toNat_lt
      have HV := Lib.hid (show bits .or .i64 ((T[2 * i].toNat : Int) * 256) (T[2 * i + 1].toNat : Int) = ((at2 T.data.toList (2 * i) : Nat) : Int) from by
        rw [or8 _ _ (by omega) (by omega)]; unfold at2; rw [getD_size _ _ h0, getD_size _ _ hk])
      have f1 : IntKind.i64.wrap (2 * (i : Int)) = 2 * (i : Int) := IntWalk.i64_in _ (by omega)
      have f2 : IntKind.i64.wrap (2 * (i : Int) + 1) = 2 * (i : Int) + 1 := IntWalk.i64_in _ (by omega)
      have f3 : (0 : Int) ≤ 2 * (i : Int) := by omega
      have f4 : (0 : Int) ≤ 2 * (i : Int) + 1 := by omega
      have f5 : (2 * (i : Int)).toNat = 2 * i := by omega
      have f6 : (2 * (i : Int) + 1).toNat = 2 * i + 1 := by omega
      have f7 : 2 * (i : Int) < (T.size : Int) := by omega
      have f8 : 2 * (i : Int) + 1 < (T.size : Int) := by omega
      have e4 : IntKind.i64.wrap (T[2 * i].toNat : Int) = (T[2 * i].toNat : Int) := IntWalk.i64_in _ (by omega)
      have e5 : IntKind.i64.wrap ((T[2 * i].toNat : Int) * 256) = (T[2 * i].toNat : Int) * 256 := IntWalk.i64_in _ (by omega)
      have e6 : IntKind.i64.wrap (T[2 * i + 1].toNat : Int) = (T[2 * i + 1].toNat : Int) := IntWalk.i64_in _ (by omega)
      go_wp2_with fail
      go_quiet (fail)
      rw [HV.out]
      have hlt := at2_lt T.data.toList (2 * i)
      generalize hav : at2 T.data.toList (2 * i) = av at *
      have HA := Lib.hid hav
      clear HV hav
      by_cases hbig : 1024 < av
      · have hbI : (1024 : Int) < (av : Int) := by omega
        have OO := Lib.hid (Below_drewN O nq)
        clear O
        go_wp2_with fail
        go_ret2
        refine ⟨.inl ⟨⟨i, h', by rw [HA.out]; exact hbig⟩, rfl⟩, ?_⟩
        exact OO.out
      · have hbI : ¬ (1024 : Int) < (av : Int) := by omega
        have eW : IntKind.i64.wrap ((av : Int) - 1) = (av : Int) - 1 := IntWalk.i64_in _ (by omega)
        obtain ⟨BA, bc, rfl⟩ := slc_val S
        have O1 := Below_drewN O nq
        have S1 := S.drewN nq
        clear O S
        have WD : ∃ W, W = wr.drewN nq := ⟨_, rfl⟩
        obtain ⟨W, hW⟩ := WD
        rw [← hW] at O1 S1
        obtain ⟨v', w2, ea, S2, ow, fr⟩ := append_one (P := Try.prog) S1 22 22 (.int .i64 0) 8 Try.underlying22 info_int1 rfl (.int .i64 ((av : Int) - 1)) rfl (by unfold maxLen; omega) (by omega)
        obtain ⟨V2, vc2, rfl⟩ := slc_val S2
        have hsz : W.heap.size = wr.heap.size := by rw [hW]; rfl
        rw [hsz] at ea
        have EA := Lib.hid ea
        have SX := Lib.hid (show Slc w2 3 1 (.slice V2 (i + 1) vc2) (i + 1) (nvs (getF T.data.toList (i + 1))) from by
          rw [getF_succ, HA.out]; unfold nvs at S2 ⊢; rw [List.map_append]; exact S2)
        have OX := Lib.hid (O1.trans (ow.below_of O1.size F.out))
        have FX := Lib.hid (show ∀ x ∈ ownB (.slice V2 (i + 1) vc2), w.heap.size ≤ x from fun x hx => (fr x hx).elim (F.out x) (fun h => Nat.le_trans O1.size h))
        have G2 := Lib.hid (show ∀ j, j < i + 1 → at2 T.data.toList (2 * j) ≤ 1024 from fun j hj => by
          rcases Nat.lt_succ_iff_lt_or_eq.1 hj with h | rfl
          · exact GD.out j h
          · rw [HA.out]; omega)
        clear ea S2 ow fr O1 S1 hsz
        have HW := Lib.hid hW
        clear hW
        go_wp2_with fail
        rw [← HW.out]
        rw [EA.out]
        go_wp2_with fail
        go_roundw
        case rel => exact ⟨i + 1, by omega, by go_num, SX.out, G2, OX.out, FX⟩
        case measure => simp [intOf]; omega
    · obtain rfl : i = m := by omega
      have OO := Lib.hid O
      have SS := Lib.hid S
      obtain ⟨BA, bc, rfl⟩ := slc_val S
      clear S O
      go_wp2_with fail
      go_ret2
      exact ⟨.inr ⟨GD.out, _, rfl, SS.out, F.out⟩, OO.out⟩
end Go.Proofs.Ytemcamhkacaoiaa.Rt
