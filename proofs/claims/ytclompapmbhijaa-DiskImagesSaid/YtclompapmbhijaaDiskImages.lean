/-
  DiskImages: for every input the law returns true, and each argument reads behind the call as before. No condition of its own.
-/
import Derived.Test.YtclompapmbhijaaDiskOf
namespace Go.Proofs.Ytclompapmbhijaa.diskImages
open Go.ChangeShapes Go.WideShapes Go.ChangeAt Go.RowKit
open Go.ChangeMaps (open_string shut_string)
set_option linter.unusedVariables false

open Dk
set_option maxRecDepth 100000 in
set_option maxHeartbeats 4000000 in
theorem walk {H : Type} {enc : TypeId × Value → H} {w : World} {base : Nat} (s : ByteArray) (hs : s.size ≤ maxLen) {v : Value} {d : DataW H} {ps : List MemPlace} (hok : Value.okWide Try.prog w .any base 25 v) (h : DataW.Trod enc Try.prog w 0 (fun _ => true) true 25 v d ps) :
    Calls Try.prog 8 #[.string s, v] w fun e w' => e = .returned (.bool true) ∧ Below w.heap.size w w' := by
  obtain ⟨C, rfl, hC, hm⟩ := crash_of hok h
  clear hok h
  have hlt : ∀ ad, C.A = some ad → 0 < C.m → ad.block < w.heap.size := fun ad e hp => by
    obtain ⟨ad', e', hc⟩ := hC 0 hp
    rw [e] at e'
    injection e' with e'
    subst e'
    exact cell_lt hc
  have HLT := Lib.hid hlt
  have HC := Lib.hid hC
  clear hlt hC
  have B0 := Lib.hid (Blk.new w 25 #[.slice C.A C.m C.c, .int .i64 C.torn, .int .i64 C.bytes])
  have O0 := Lib.hid ((Below.refl w.heap.size w).alloc (Nat.le_refl _) (.cells #[.slice C.A C.m C.c, .int .i64 C.torn, .int .i64 C.bytes] 25))
  have hxx := Lib.hid (show w.heap.size < (w.alloc (.cells #[.slice C.A C.m C.c, .int .i64 C.torn, .int .i64 C.bytes] 25)).heap.size by simp)
  have KV := Lib.hid (show C.val = .agg #[.slice C.A C.m C.c, .int .i64 C.torn, .int .i64 C.bytes] from rfl)
  unfold Cr.val
  have h3 : (3000 < s.size ∧ 3000 ≤ s.size) ∨ ¬ 3000 < s.size := by omega
  go_enter Try.func8, Try.ntmps8
  rcases h3 with ⟨h3, h4⟩ | h3
  · go_wp2_with fail
    obtain ⟨t, ht⟩ : ∃ t, s.extract 0 3000 = t := ⟨_, rfl⟩
    have hT : t.size ≤ 3000 := by rw [← ht]; simp; omega
    rw [ht]
    clear ht h3 h4
    rcases Nat.eq_zero_or_pos t.size with h0 | h0
    · refine (of_none t _ h0).mono ?_
      rintro e w1 ⟨rfl, rfl⟩
      have h0' : (t.size : Int) = 0 := by omega
      go_wp2_with fail
      refine (awake_any _).mono ?_
      rintro e w2 ⟨rfl, hb2⟩
      have O2 := bstep O0.out hb2
      go_wp2_with fail
      go_ret
      exact ⟨by first | rfl | simp, O2⟩
    · refine (of_some t _ h0 (by omega)).mono ?_
      rintro e w1 ⟨L, rfl, D1, hb1, fr⟩
      have hxL := Lib.hid (show ∀ y ∈ L.fp, w.heap.size < y from fun y hy => by have := fr y hy; have := hxx.out; omega)
      have O1 := O0.out.trans (hb1.mono O0.out.size)
      have B1 := B0.out.below hb1 B0.out.lt
      have C1 := (HC.out.below O0.out).below hb1
      have hap : ∀ ad, C.A = some ad → 0 < C.m → ad.block ∉ L.fp := fun ad e hp hy => by have := HLT.out ad e hp; have := hxL.out _ hy; omega
      have hge := Lib.hid (show ∀ y ∈ L.fp, w.heap.size ≤ y from fun y hy => Nat.le_of_lt (hxL.out y hy))
      have KX := Lib.hid (crash_any D1 C C1 hm hap)
      rw [img_crash] at KX
      have c0 := B1.cell_some (i := 0) rfl
      have c1 := B1.cell_some (i := 1) rfl
      have c2 := B1.cell_some (i := 2) rfl
      unfold dp Cr.val at KX
      unfold dp
      have hne0 : ¬ (t.size : Int) = 0 := by omega
      clear hb1 B1 C1 D1 B0 O0 HC fr hap
      go_wp2_with fail
      refine KX.out.mono ?_
      rintro e w2 ⟨rfl, D2, o2⟩
      have O2 := O1.trans (o2.below_of O1.size hge.out)
      have HN := Lib.hid (show sectorsF t.data.toList = (t.size + 63) / 64 by unfold sectorsF; simp)
      have HR := Lib.hid (fun i hi => img_read t.data.toList (sectorsF t.data.toList) i hi)
      have HF := Lib.hid (show (imgF t.data.toList (sectorsF t.data.toList)).now = t.data.toList ++ List.replicate (64 * sectorsF t.data.toList - t.data.toList.length) 0 from rfl)
      have HT := Lib.hid (fun i => take_sec (imgF t.data.toList (sectorsF t.data.toList)).now i)
      have hN4 : sectorsF t.data.toList ≤ 50 := by rw [HN.out]; omega
      generalize imgF t.data.toList (sectorsF t.data.toList) = d at *
      generalize sectorsF t.data.toList = N at *
      clear c0 c1 c2 KX o2 O1
      go_wp2_with fail
      go_loopw [7, 8] (fun av iv wr => ∃ i : Nat, i ≤ N ∧ iv = .int .i64 i ∧ av = .string ⟨(d.now.take (64 * i)).toArray⟩ ∧ wr = w2) (fun _ iv _ => N - (intOf iv).toNat)
      case atStart => exact ⟨0, by omega, rfl, rfl, rfl⟩
      case round =>
        obtain ⟨i, hi, rfl, rfl, rfl⟩ := hrel
        rename World => w9
        have KS := Lib.hid (sectors_any D2)
        unfold dp at KS
        by_cases h : i < N
        · have KR := Lib.hid (read_any D2 i)
          rw [HR.out i h] at KR
          unfold dp at KR
          have HS := Lib.hid (show (⟨(d.now.take (64 * i)).toArray⟩ ++ ⟨(sec d.now i).toArray⟩ : ByteArray) = ⟨(d.now.take (64 * (i + 1))).toArray⟩ by rw [string_append_list, ← HT.out])
          have hm1 : ¬ 9223372036854775807 < min (64 * i) d.now.length + (sec d.now i).length := by
            have : (sec d.now i).length ≤ 64 := by unfold sec; rw [List.length_take]; omega
            omega
          go_wp2_with fail
          refine KS.out.mono ?_
          rintro e w3 ⟨rfl, rfl⟩
          go_wp2_with fail
          refine KR.out.mono ?_
          rintro e w3 ⟨rfl, rfl⟩
          go_wp2_with fail
          go_roundw
          case rel => exact ⟨i + 1, by omega, by go_num, by rw [HS.out], by first | trivial | rfl⟩
          case measure => simp [intOf]; omega
        · have hiN : i = N := by omega
          go_wp2_with fail
          refine KS.out.mono ?_
          rintro e w3 ⟨rfl, rfl⟩
          have hNl := HN.out
          have htl : t.data.toList.length = t.size := by simp
          have hA := Lib.hid (show d.now.take (64 * i) = t.data.toList ++ List.replicate (64 * N - t.size) 0 by rw [hiN, ← htl, ← HF.out, List.take_of_length_le]; rw [HF.out, List.length_append, List.length_replicate]; omega)
          have hsz : (⟨(d.now.take (64 * i)).toArray⟩ : ByteArray).size = 64 * N := by rw [hA.out]; show (List.toArray _).size = _; rw [List.size_toArray, List.length_append, List.length_replicate]; omega
          have hex : (⟨(d.now.take (64 * i)).toArray⟩ : ByteArray).extract 0 t.size = t := by
            rw [hA.out]; apply ByteArray.ext; apply Array.toList_inj.1; rw [ByteArray.data_extract, Array.toList_extract, List.extract_eq_take_drop]
            show List.take _ (List.drop 0 (_ ++ _)) = _
            rw [List.drop_zero, List.take_append_of_le_length (by omega), List.take_of_length_le (by omega)]
          have hzz : ∀ l : List UInt8, l = t.data.toList ++ List.replicate (64 * N - t.size) 0 → ∀ j (hh : j < (⟨l.toArray⟩ : ByteArray).size), t.size ≤ j → (((⟨l.toArray⟩ : ByteArray)[j]'hh).toNat) = 0 := by
            rintro l rfl j hh hj
            show UInt8.toNat ((List.toArray (t.data.toList ++ List.replicate (64 * N - t.size) 0))[j]'hh) = 0
            rw [List.getElem_toArray, List.getElem_append_right (by rw [htl]; exact hj), List.getElem_replicate]; rfl
          have hzA := hzz _ hA.out
          clear htl hzz
          generalize (⟨(d.now.take (64 * i)).toArray⟩ : ByteArray) = A at *
          clear hiN KS D2 HT HR
          have hx1 : ¬ (64 * N < t.size) := by omega
          have hx2 : ¬ (t.size + 64 ≤ 64 * N) := by omega
          go_wp2_with fail
          clear hNl
          go_loopw [11] (fun iv wr => ∃ j : Nat, t.size ≤ j ∧ j ≤ 64 * N ∧ iv = .int .i64 j ∧ wr = w9) (fun iv _ => 64 * N - (intOf iv).toNat)
          case atStart => exact ⟨t.size, by omega, by omega, rfl, rfl⟩
          case round =>
            obtain ⟨j, hj1, hj2, rfl, rfl⟩ := hrel
            by_cases hj : j < 64 * N
            · have hzj : (((A[j]'(by omega)).toNat : Int) != 0) = false := by rw [hzA j (by omega) hj1]; rfl
              go_wp2_with fail
              go_roundw
              case rel => exact ⟨j + 1, by omega, by omega, by go_num, by first | trivial | rfl⟩
              case measure => simp [intOf]; omega
            · go_wp2_with fail
              refine (awake_any _).mono ?_
              rintro e w9 ⟨rfl, hb9⟩
              have O9 := bstep O2 hb9
              go_wp2_with fail
              go_ret
              exact ⟨by first | rfl | simp, O9⟩
  · go_wp2_with fail
    rename ByteArray => t
    have hT : t.size ≤ 3000 := by omega
    clear h3
    rcases Nat.eq_zero_or_pos t.size with h0 | h0
    · refine (of_none t _ h0).mono ?_
      rintro e w1 ⟨rfl, rfl⟩
      have h0' : (t.size : Int) = 0 := by omega
      go_wp2_with fail
      refine (awake_any _).mono ?_
      rintro e w2 ⟨rfl, hb2⟩
      have O2 := bstep O0.out hb2
      go_wp2_with fail
      go_ret
      exact ⟨by first | rfl | simp, O2⟩
    · refine (of_some t _ h0 (by omega)).mono ?_
      rintro e w1 ⟨L, rfl, D1, hb1, fr⟩
      have hxL := Lib.hid (show ∀ y ∈ L.fp, w.heap.size < y from fun y hy => by have := fr y hy; have := hxx.out; omega)
      have O1 := O0.out.trans (hb1.mono O0.out.size)
      have B1 := B0.out.below hb1 B0.out.lt
      have C1 := (HC.out.below O0.out).below hb1
      have hap : ∀ ad, C.A = some ad → 0 < C.m → ad.block ∉ L.fp := fun ad e hp hy => by have := HLT.out ad e hp; have := hxL.out _ hy; omega
      have hge := Lib.hid (show ∀ y ∈ L.fp, w.heap.size ≤ y from fun y hy => Nat.le_of_lt (hxL.out y hy))
      have KX := Lib.hid (crash_any D1 C C1 hm hap)
      rw [img_crash] at KX
      have c0 := B1.cell_some (i := 0) rfl
      have c1 := B1.cell_some (i := 1) rfl
      have c2 := B1.cell_some (i := 2) rfl
      unfold dp Cr.val at KX
      unfold dp
      have hne0 : ¬ (t.size : Int) = 0 := by omega
      clear hb1 B1 C1 D1 B0 O0 HC fr hap
      go_wp2_with fail
      refine KX.out.mono ?_
      rintro e w2 ⟨rfl, D2, o2⟩
      have O2 := O1.trans (o2.below_of O1.size hge.out)
      have HN := Lib.hid (show sectorsF t.data.toList = (t.size + 63) / 64 by unfold sectorsF; simp)
      have HR := Lib.hid (fun i hi => img_read t.data.toList (sectorsF t.data.toList) i hi)
      have HF := Lib.hid (show (imgF t.data.toList (sectorsF t.data.toList)).now = t.data.toList ++ List.replicate (64 * sectorsF t.data.toList - t.data.toList.length) 0 from rfl)
      have HT := Lib.hid (fun i => take_sec (imgF t.data.toList (sectorsF t.data.toList)).now i)
      have hN4 : sectorsF t.data.toList ≤ 50 := by rw [HN.out]; omega
      generalize imgF t.data.toList (sectorsF t.data.toList) = d at *
      generalize sectorsF t.data.toList = N at *
      clear c0 c1 c2 KX o2 O1
      go_wp2_with fail
      go_loopw [7, 8] (fun av iv wr => ∃ i : Nat, i ≤ N ∧ iv = .int .i64 i ∧ av = .string ⟨(d.now.take (64 * i)).toArray⟩ ∧ wr = w2) (fun _ iv _ => N - (intOf iv).toNat)
      case atStart => exact ⟨0, by omega, rfl, rfl, rfl⟩
      case round =>
        obtain ⟨i, hi, rfl, rfl, rfl⟩ := hrel
        rename World => w9
        have KS := Lib.hid (sectors_any D2)
        unfold dp at KS
        by_cases h : i < N
        · have KR := Lib.hid (read_any D2 i)
          rw [HR.out i h] at KR
          unfold dp at KR
          have HS := Lib.hid (show (⟨(d.now.take (64 * i)).toArray⟩ ++ ⟨(sec d.now i).toArray⟩ : ByteArray) = ⟨(d.now.take (64 * (i + 1))).toArray⟩ by rw [string_append_list, ← HT.out])
          have hm1 : ¬ 9223372036854775807 < min (64 * i) d.now.length + (sec d.now i).length := by
            have : (sec d.now i).length ≤ 64 := by unfold sec; rw [List.length_take]; omega
            omega
          go_wp2_with fail
          refine KS.out.mono ?_
          rintro e w3 ⟨rfl, rfl⟩
          go_wp2_with fail
          refine KR.out.mono ?_
          rintro e w3 ⟨rfl, rfl⟩
          go_wp2_with fail
          go_roundw
          case rel => exact ⟨i + 1, by omega, by go_num, by rw [HS.out], by first | trivial | rfl⟩
          case measure => simp [intOf]; omega
        · have hiN : i = N := by omega
          go_wp2_with fail
          refine KS.out.mono ?_
          rintro e w3 ⟨rfl, rfl⟩
          have hNl := HN.out
          have htl : t.data.toList.length = t.size := by simp
          have hA := Lib.hid (show d.now.take (64 * i) = t.data.toList ++ List.replicate (64 * N - t.size) 0 by rw [hiN, ← htl, ← HF.out, List.take_of_length_le]; rw [HF.out, List.length_append, List.length_replicate]; omega)
          have hsz : (⟨(d.now.take (64 * i)).toArray⟩ : ByteArray).size = 64 * N := by rw [hA.out]; show (List.toArray _).size = _; rw [List.size_toArray, List.length_append, List.length_replicate]; omega
          have hex : (⟨(d.now.take (64 * i)).toArray⟩ : ByteArray).extract 0 t.size = t := by
            rw [hA.out]; apply ByteArray.ext; apply Array.toList_inj.1; rw [ByteArray.data_extract, Array.toList_extract, List.extract_eq_take_drop]
            show List.take _ (List.drop 0 (_ ++ _)) = _
            rw [List.drop_zero, List.take_append_of_le_length (by omega), List.take_of_length_le (by omega)]
          have hzz : ∀ l : List UInt8, l = t.data.toList ++ List.replicate (64 * N - t.size) 0 → ∀ j (hh : j < (⟨l.toArray⟩ : ByteArray).size), t.size ≤ j → (((⟨l.toArray⟩ : ByteArray)[j]'hh).toNat) = 0 := by
            rintro l rfl j hh hj
            show UInt8.toNat ((List.toArray (t.data.toList ++ List.replicate (64 * N - t.size) 0))[j]'hh) = 0
            rw [List.getElem_toArray, List.getElem_append_right (by rw [htl]; exact hj), List.getElem_replicate]; rfl
          have hzA := hzz _ hA.out
          clear htl hzz
          generalize (⟨(d.now.take (64 * i)).toArray⟩ : ByteArray) = A at *
          clear hiN KS D2 HT HR
          have hx1 : ¬ (64 * N < t.size) := by omega
          have hx2 : ¬ (t.size + 64 ≤ 64 * N) := by omega
          go_wp2_with fail
          clear hNl
          go_loopw [11] (fun iv wr => ∃ j : Nat, t.size ≤ j ∧ j ≤ 64 * N ∧ iv = .int .i64 j ∧ wr = w9) (fun iv _ => 64 * N - (intOf iv).toNat)
          case atStart => exact ⟨t.size, by omega, by omega, rfl, rfl⟩
          case round =>
            obtain ⟨j, hj1, hj2, rfl, rfl⟩ := hrel
            by_cases hj : j < 64 * N
            · have hzj : (((A[j]'(by omega)).toNat : Int) != 0) = false := by rw [hzA j (by omega) hj1]; rfl
              go_wp2_with fail
              go_roundw
              case rel => exact ⟨j + 1, by omega, by omega, by go_num, by first | trivial | rfl⟩
              case measure => simp [intOf]; omega
            · go_wp2_with fail
              refine (awake_any _).mono ?_
              rintro e w9 ⟨rfl, hb9⟩
              have O9 := bstep O2 hb9
              go_wp2_with fail
              go_ret
              exact ⟨by first | rfl | simp, O9⟩

set_option maxRecDepth 100000 in
theorem contract (H : Type) (enc : TypeId × Value → H) (W : World) (base : Nat) (args : Array Value) (ds gs : List (DataW H)) (before : List MemPlace)
    (hval0 : ∀ (j : Nat) t v, Try.f8.params[j]? = some t → args[j]? = some v → Value.okWide Try.prog W .any base t v)
    (hW : DataW.Whole enc Try.prog Try.f8.params.toList Rows.diskImagesSpec.vars false W args.toList ds gs before) :
    Calls Try.prog 8 args W fun e W' => ∃ v, e = .returned v ∧ Rows.diskImagesSpec.post enc Try.prog Try.f8 false true false false W args v W' := by
  have hval := hval0
  have hW' := hW
  obtain ⟨p, q, hA0, hV, rfl, hfz, hnd⟩ := hW
  have hA : DataW.TrodAll enc Try.prog W 0 (fun _ => true) true Try.f8.params.toList args.toList ds p := hA0
  have hlt : ∀ x ∈ p, x.block < W.heap.size := fun x hx => by simpa using hW'.lt x (List.mem_append_left _ hx)
  rw [Try.params8] at hA hval
  obtain ⟨v0, vs0, d0, ds0, p0, q0, hargs, rfl, rfl, h0, r0⟩ := trodAll_cons hA
  obtain ⟨v1, vs1, d1, ds1, p1, q1, rfl, rfl, rfl, h1, r1⟩ := trodAll_cons r0
  obtain ⟨rfl, rfl, rfl⟩ := trodAll_nil r1
  obtain rfl : args = #[v0, v1] := by cases args; simp_all
  obtain ⟨rfl, rfl⟩ := trodVars_none hV
  obtain ⟨s0, rfl, rfl, rfl, hs0⟩ := open_string Try.underlying9 (hval 0 9 v0 rfl rfl) h0
  refine (walk s0 hs0 (hval 1 25 v1 rfl rfl) h1 ).mono fun e W1 ⟨he, hb⟩ => ?_
  subst he
  exact ⟨_, rfl, law_post laidOut hW' rfl (by kernel_rfl) (by rfl) Try.underlying4 rfl hb⟩

set_option maxRecDepth 100000 in
theorem lifted (os : Os) (started : os.Started) (H : Type) (enc : TypeId × Value → H) :
    ReturnsInHanded {} Try.checked os 8 .any (Rows.diskImagesSpec.pre6 enc Try.prog Try.f8 Rows.diskImagesRow.domain false) (Rows.diskImagesSpec.post enc Try.prog Try.f8 false true false false) := by
  refine returnsInHanded_of_change (C := Try.checked) own started (by kernel_rfl) Try.func8
    (ChangeSpec.witness6 (enc := enc) (C := Try.checked) false ⟨#[], #[.string .empty, .agg #[.slice none 0 0, .int .i64 0, .int .i64 0]], []⟩ 8 (by kernel_rfl) (by kernel_rfl) (by kernel_rfl) (by kernel_rfl)) ?_
  intro W base args ds gs before hval0 hW hcnd _
  exact contract H enc W base args ds gs before hval0 hW

theorem proved : Rows.DiskImagesSaid :=
  OpenClaim.holds_of_wide 8 Try.f8 rfl rfl rfl rfl rfl rfl rfl ⟨rfl, rfl, rfl, rfl, rfl⟩ rfl rfl rfl rfl rfl (by kernel_rfl) Try.func8 (by kernel_rfl)
    (of_decide_eq_true (by kernel_rfl)) (by unfold Func.isWrapper; first | (rw [if_pos (by decide +kernel)]; kernel_rfl) | (rw [if_neg (by decide +kernel)]; exact ⟨rfl, rfl⟩))
    (fun os started H enc _ => lifted os started H enc)
#print axioms proved
end Go.Proofs.Ytclompapmbhijaa.diskImages
