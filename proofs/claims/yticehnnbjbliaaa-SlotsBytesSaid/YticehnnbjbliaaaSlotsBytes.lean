/-
  SlotsBytes: for every input the law returns true, and each argument reads behind the call as before. No condition of its own.
-/
import Derived.Test.YticehnnbjbliaaaSlBytes
namespace Go.Proofs.Yticehnnbjbliaaa.slotsBytes
open Go.ChangeShapes Go.WideShapes Go.ChangeAt Go.RowKit
open Go.ChangeMaps (open_string shut_string)
set_option linter.unusedVariables false

open Sl
attribute [local go_sem ↓] Go.wp_at_zero Go.wp_at_succ
theorem ext_concat {T A1 A2 A3 A4 : ByteArray} (h : T.data.toList.take 8 = A1.data.toList ++ A2.data.toList ++ A3.data.toList ++ A4.data.toList) : T.extract 0 8 = A1 ++ A2 ++ A3 ++ A4 := by
  have e := extract_list T 0 8
  rw [Nat.zero_add, List.drop_zero, h] at e
  rw [e]
  apply ByteArray.ext
  simp [ByteArray.data_append]
theorem ext_tail {T r : ByteArray} (k : Nat) (hk : k ≤ T.size) (h : T.data.toList.drop k = r.data.toList) : T.extract k T.size = r := by
  have e := extract_list T k (T.size - k)
  rw [Nat.add_sub_cancel' hk, h] at e
  rw [e]
  have hl : r.data.toList.length = T.size - k := by rw [← h]; simp
  rw [List.take_of_length_le (by omega)]
set_option maxRecDepth 100000 in
set_option maxHeartbeats 8000000 in
theorem walk_in (r : ByteArray) (w : World) (hr : r.size ≤ 224) :
    Calls Try.prog 3 #[.string r] w fun e w' => e = .returned (.bool true) ∧ Below w.heap.size w w' := by
  obtain ⟨T0, h0⟩ := ba_of emptyF
  obtain ⟨s0, r0, -, -⟩ := empty_sound
  have hrl : r.data.toList.length = r.size := by simp
  obtain ⟨i1, s1, r1⟩ := insG_ok s0 0 r.data.toList (by rw [r0, hrl]; show (r.size : Int) ≤ 228 - 0 - 4; omega) (by omega)
  obtain ⟨f1, f2⟩ := first_bytes r.data.toList (by omega)
  obtain ⟨T1, h1⟩ := ba_of (insF emptyF 0 r.data.toList)
  rw [← h1] at s1 i1 f1 f2
  rw [← h0] at i1
  rw [hrl] at f1 f2
  have z0 : T0.size = 232 := by have := s0.len; rw [← h0] at this; simpa using this
  have z1 : T1.size = 232 := by have := s1.len; simpa using this
  have KE := Lib.hid (empty_any w)
  rw [← h0, ba_eq] at KE
  have K1 := Lib.hid (fun w' => insert_any T0 r 0 w' (by omega) (by omega))
  have i1' : insG T0.data.toList 0 r.data.toList = (T1.data.toList, 0) := i1
  rw [i1', ba_eq] at K1
  obtain ⟨at', hat⟩ : ∃ a, a = 232 - r.size := ⟨_, rfl⟩
  rw [← hat] at f1 f2
  have f3 : T1.data.toList.take 8 = (tw 1).data.toList ++ (tw at').data.toList ++ (tw at').data.toList ++ (tw r.size).data.toList := by
    rw [tw_list, tw_list, tw_list, f1]; rfl
  have KT := Lib.hid rtwo_tw
  have x1 := ext_concat f3
  have x2 := ext_tail at' (by omega) f2
  have hz1 : (T1.size : Int) = 232 := by omega
  have HSZ := Lib.hid hz1
  have hs8 : (8 : Int) ≤ (T1.size : Int) := by omega
  have hsa : (at' : Int) ≤ (T1.size : Int) := by omega
  have hsb : ((T1.size : Int) == 232) = true := by simp; omega
  have hsub : IntKind.i64.wrap ((232 : Int) - (r.size : Int)) = (at' : Int) := by rw [IntWalk.i64_in _ (by omega)]; omega
  have hsub2 : (232 : Int) - (r.size : Int) = (at' : Int) := by omega
  have HSUB := Lib.hid hsub2
  clear hsub hsub2 hz1 z0 z1 f1 f2 f3 i1 i1' h0 h1 s0 s1 r0 r1 hrl
  have hlo : (0 : Int) ≤ (at' : Int) := by omega
  have X1 := Lib.hid x1
  have X2 := Lib.hid x2
  have HAT := Lib.hid hat
  clear x1 x2 hat
  go_enter Try.func3, Try.ntmps3
  go_wp2_with fail
  refine KE.out.mono ?_
  rintro e w1 ⟨rfl, hb1⟩
  have O1 := Lib.hid hb1
  clear hb1
  go_wp2_with fail
  refine (K1.out _).mono ?_
  rintro e w2 ⟨rfl, hb2⟩
  have O2 := Lib.hid (bstep O1.out hb2)
  clear hb2 O1
  go_wp2_with fail
  rw [HSUB.out]
  have x1 := X1.out
  have x2 := X2.out
  have O3 := Lib.hid (bstep O2.out ((Below.refl w2.heap.size w2).drew))
  clear KE K1 O2
  have ha2 : (at' : Int) ≤ 232 := by have := HAT.out; omega
  have ht1 : (tw 1).size ≤ 2 := Nat.le_of_eq (tw_size 1)
  have ht2 : (tw (at' : Int)).size ≤ 2 := Nat.le_of_eq (tw_size _)
  have ht3 : (tw (r.size : Int)).size ≤ 2 := Nat.le_of_eq (tw_size _)
  have hn1 : ¬ 9223372036854775807 < (tw 1).size + (tw (at' : Int)).size := by omega
  have hn2 : ¬ 9223372036854775807 < (tw 1).size + (tw (at' : Int)).size + (tw (at' : Int)).size := by omega
  have hn3 : ¬ 9223372036854775807 < (tw 1).size + (tw (at' : Int)).size + (tw (at' : Int)).size + (tw (r.size : Int)).size := by omega
  have hm2 : ¬ 9223372036854775807 < (tw 1 ++ tw (at' : Int)).size + (tw (at' : Int)).size := by rw [ByteArray.size_append]; omega
  have hm3 : ¬ 9223372036854775807 < (tw 1 ++ tw (at' : Int) ++ tw (at' : Int)).size + (tw (r.size : Int)).size := by rw [ByteArray.size_append, ByteArray.size_append]; omega
  go_region_held3 (fun _ => True) (trivial) (first | (go_at_call 10; refine (awake_any _).mono ?_; rintro e w4 ⟨rfl, hb4⟩; have O3 := Lib.hid (bstep O3.out hb4); clear hb4) | (go_at_call 11; refine (KT.out _ _ (by omega) (by omega)).mono ?_; rintro e w4 ⟨rfl, hb4⟩; have O3 := Lib.hid (bstep O3.out hb4); clear hb4))
  all_goals
    go_wp2_with fail
    go_ret
    exact ⟨by first | rfl | simp, O3.out⟩
theorem insG_full {b : List UInt8} (h : Sound b) (i : Nat) (r : List UInt8) (hr : roomR (recs b) - 4 < (r.length : Int)) (hi : i ≤ (recs b).length) : insG b i r = ([], 11) := by
  rw [recs_length] at hi
  rw [← room_eq h] at hr
  unfold insG
  rw [if_pos ((checkF_ok b).2 h), if_pos ⟨by omega, by omega⟩, if_neg (by omega)]
set_option maxRecDepth 100000 in
set_option maxHeartbeats 4000000 in
theorem walk_long (r : ByteArray) (w : World) (hr : 224 < r.size) (hm : r.size ≤ 9223372036854775807) :
    Calls Try.prog 3 #[.string r] w fun e w' => e = .returned (.bool true) ∧ Below w.heap.size w w' := by
  obtain ⟨T0, h0⟩ := ba_of emptyF
  obtain ⟨s0, r0, -, -⟩ := empty_sound
  have hrl : r.data.toList.length = r.size := by simp
  have i1 := insG_full s0 0 r.data.toList (by rw [r0, hrl]; show (228 : Int) - 0 - 4 < r.size; omega) (by omega)
  rw [← h0] at i1
  have z0 : T0.size = 232 := by have := s0.len; rw [← h0] at this; simpa using this
  have KE := Lib.hid (empty_any w)
  rw [← h0, ba_eq] at KE
  have K1 := Lib.hid (fun w' => insert_any T0 r 0 w' (by omega) hm)
  have i1' : insG T0.data.toList 0 r.data.toList = ([], 11) := i1
  rw [i1'] at K1
  clear i1 i1' h0 s0 r0 z0 hrl
  go_enter Try.func3, Try.ntmps3
  go_wp2_with fail
  refine KE.out.mono ?_
  rintro e w1 ⟨rfl, hb1⟩
  have O1 := Lib.hid hb1
  clear hb1
  go_wp2_with fail
  refine (K1.out _).mono ?_
  rintro e w2 ⟨rfl, hb2⟩
  have O2 := Lib.hid (bstep O1.out hb2)
  clear hb2 O1
  go_wp2_with fail
  refine (awake_any _).mono ?_
  rintro e w3 ⟨rfl, hb3⟩
  have O3 := Lib.hid (bstep O2.out hb3)
  clear hb3
  go_wp2_with fail
  go_ret
  exact ⟨by first | rfl | simp, O3.out⟩
theorem walk (r : ByteArray) (hr : r.size ≤ maxLen) (w : World) :
    Calls Try.prog 3 #[.string r] w fun e w' => e = .returned (.bool true) ∧ Below w.heap.size w w' := by
  unfold maxLen at hr
  by_cases h : r.size ≤ 224
  · exact walk_in r w h
  · exact walk_long r w (by omega) hr

set_option maxRecDepth 100000 in
theorem contract (H : Type) (enc : TypeId × Value → H) (W : World) (base : Nat) (args : Array Value) (ds gs : List (DataW H)) (before : List MemPlace)
    (hval0 : ∀ (j : Nat) t v, Try.f3.params[j]? = some t → args[j]? = some v → Value.okWide Try.prog W .any base t v)
    (hW : DataW.Whole enc Try.prog Try.f3.params.toList Rows.slotsBytesSpec.vars false W args.toList ds gs before) :
    Calls Try.prog 3 args W fun e W' => ∃ v, e = .returned v ∧ Rows.slotsBytesSpec.post enc Try.prog Try.f3 false true false false W args v W' := by
  have hval := hval0
  have hW' := hW
  obtain ⟨p, q, hA0, hV, rfl, hfz, hnd⟩ := hW
  have hA : DataW.TrodAll enc Try.prog W 0 (fun _ => true) true Try.f3.params.toList args.toList ds p := hA0
  have hlt : ∀ x ∈ p, x.block < W.heap.size := fun x hx => by simpa using hW'.lt x (List.mem_append_left _ hx)
  rw [Try.params3] at hA hval
  obtain ⟨v0, vs0, d0, ds0, p0, q0, hargs, rfl, rfl, h0, r0⟩ := trodAll_cons hA
  obtain ⟨rfl, rfl, rfl⟩ := trodAll_nil r0
  obtain rfl : args = #[v0] := by cases args; simp_all
  obtain ⟨rfl, rfl⟩ := trodVars_none hV
  obtain ⟨s0, rfl, rfl, rfl, hs0⟩ := open_string Try.underlying9 (hval 0 9 v0 rfl rfl) h0
  refine (walk s0 hs0 W).mono fun e W1 ⟨he, hb⟩ => ?_
  subst he
  exact ⟨_, rfl, law_post laidOut hW' rfl (by kernel_rfl) (by rfl) Try.underlying4 rfl hb⟩

set_option maxRecDepth 100000 in
theorem lifted (os : Os) (started : os.Started) (H : Type) (enc : TypeId × Value → H) :
    ReturnsInHanded {} Try.checked os 3 .any (Rows.slotsBytesSpec.pre6 enc Try.prog Try.f3 Rows.slotsBytesRow.domain false) (Rows.slotsBytesSpec.post enc Try.prog Try.f3 false true false false) := by
  refine returnsInHanded_of_change (C := Try.checked) own started (by kernel_rfl) Try.func3
    (ChangeSpec.witness6 (enc := enc) (C := Try.checked) false ⟨#[], #[.string .empty], []⟩ 8 (by kernel_rfl) (by kernel_rfl) (by kernel_rfl) (by kernel_rfl)) ?_
  intro W base args ds gs before hval0 hW hcnd _
  exact contract H enc W base args ds gs before hval0 hW

theorem proved : Rows.SlotsBytesSaid :=
  OpenClaim.holds_of_wide 3 Try.f3 rfl rfl rfl rfl rfl rfl rfl ⟨rfl, rfl, rfl, rfl, rfl⟩ rfl rfl rfl rfl rfl (by kernel_rfl) Try.func3 (by kernel_rfl)
    (of_decide_eq_true (by kernel_rfl)) (by unfold Func.isWrapper; first | (rw [if_pos (by decide +kernel)]; kernel_rfl) | (rw [if_neg (by decide +kernel)]; exact ⟨rfl, rfl⟩))
    (fun os started H enc _ => lifted os started H enc)
#print axioms proved
end Go.Proofs.Yticehnnbjbliaaa.slotsBytes
