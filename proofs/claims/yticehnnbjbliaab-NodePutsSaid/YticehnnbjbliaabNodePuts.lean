/-
  NodePuts: for every input the law returns true, and each argument reads behind the call as before. No condition of its own.
-/
import Derived.Test.YticehnnbjbliaabNd22
namespace Go.Proofs.Yticehnnbjbliaab.nodePuts
open Go.ChangeShapes Go.WideShapes Go.ChangeAt Go.RowKit
open Go.ChangeMaps (open_string shut_string)
set_option linter.unusedVariables false

open Sl Nd
attribute [local go_sem ↓] Go.wp_at_zero Go.wp_at_succ
set_option maxRecDepth 100000 in
set_option maxHeartbeats 4000000 in
theorem walk_idle {w : World} (leaf : Bool) (A : Option Addr) (n c : Nat) (l : List E) (h : Ents w A n l) (hn : n ≤ 9223372036854775807) (hno : ¬ lightP l) :
    Calls Try.prog 3 #[nodeV leaf A n c] w fun e w' => e = .returned (.bool true) ∧ Below w.heap.size w w' := by
  have O0 := belowAlloc (Below.refl w.heap.size w) (.cells #[.bool leaf, .slice A n c] 24)
  have H0 := Lib.hid (h.below O0)
  have KL := Lib.hid (light_any (w := w.alloc (.cells #[.bool leaf, .slice A n c] 24)) leaf A n c l H0.out hn)
  have O0 := Lib.hid O0
  have HNO := Lib.hid hno
  clear h hno
  unfold nodeV at *
  go_enter Try.func3, Try.ntmps3
  go_wp2_with fail
  refine KL.out.mono ?_
  rintro e w1 ⟨⟨b, rfl, hb⟩, hb1⟩
  have O1 := Lib.hid (bstep O0.out hb1)
  obtain rfl : b = false := by
    cases b
    · rfl
    · exact absurd (hb.1 rfl) HNO.out
  clear hb hb1
  go_wp2_with fail
  refine (awake18_any _).mono ?_
  rintro e w3 ⟨rfl, hb3⟩
  have O3 := Lib.hid (bstep O1.out hb3)
  clear hb3
  go_wp2_with fail
  go_ret
  exact ⟨rfl, O3.out⟩
set_option maxRecDepth 100000 in
set_option maxHeartbeats 4000000 in
theorem walk_bad {w : World} (leaf : Bool) (A : Option Addr) (n c : Nat) (l : List E) (h : Ents w A n l) (hn : n ≤ 60) (hl : lightP l) (hm : ¬ mayP l leaf) :
    Calls Try.prog 3 #[nodeV leaf A n c] w fun e w' => e = .returned (.bool true) ∧ Below w.heap.size w w' := by
  have O0 := belowAlloc (Below.refl w.heap.size w) (.cells #[.bool leaf, .slice A n c] 24)
  have B0 := Lib.hid (Blk.new w 24 #[.bool leaf, .slice A n c])
  have H0 := Lib.hid (h.below O0)
  have KL := Lib.hid (light_any (w := w.alloc (.cells #[.bool leaf, .slice A n c] 24)) leaf A n c l H0.out (by omega))
  have O0 := Lib.hid O0
  have HLL := Lib.hid hl
  have HMM := Lib.hid hm
  clear h hl hm
  unfold nodeV at *
  go_enter Try.func3, Try.ntmps3
  go_wp2_with fail
  refine KL.out.mono ?_
  rintro e w1 ⟨⟨b, rfl, hb⟩, hb1⟩
  obtain rfl := hb.2 HLL.out
  have O1 := Lib.hid (bstep O0.out hb1)
  have B1 := Lib.hid (B0.out.below hb1 B0.out.lt)
  have H1 := Lib.hid (H0.out.below hb1)
  have c0 : w1.cell? ⟨w.heap.size, 0, none⟩ = some (.bool leaf) := B1.out.cell_some (i := 0) rfl
  have c1 : w1.cell? ⟨w.heap.size, 1, none⟩ = some (.slice A n c) := B1.out.cell_some (i := 1) rfl
  have KT := Lib.hid (to_any (w := w1) leaf A n c l H1.out (by omega))
  unfold nodeV at KT
  clear hb hb1 KL
  go_wp2_with fail
  refine KT.out.mono ?_
  rintro e w3 ⟨⟨TA, tc, rfl, TS, -⟩, hb3⟩
  have O3 := Lib.hid (bstep O1.out hb3)
  have B3 := Lib.hid (B1.out.below hb3 B1.out.lt)
  have H3 := Lib.hid (H1.out.below hb3)
  have KP := Lib.hid (put_no (w := w3) leaf TA n tc l (Slc.ents TS).2 (by omega) HMM.out)
  unfold nodeV at KP
  clear hb3 TS KT c0 c1
  go_wp2_with fail
  refine KP.out.mono ?_
  rintro e w4 ⟨rfl, hb4⟩
  have O4 := Lib.hid (bstep O3.out hb4)
  have B4 := Lib.hid (B3.out.below hb4 B3.out.lt)
  have H4 := Lib.hid (H3.out.below hb4)
  have c0 : w4.cell? ⟨w.heap.size, 0, none⟩ = some (.bool leaf) := B4.out.cell_some (i := 0) rfl
  have c1 : w4.cell? ⟨w.heap.size, 1, none⟩ = some (.slice A n c) := B4.out.cell_some (i := 1) rfl
  have KR := Lib.hid (right_ref (w := w4) leaf A n c l H4.out (by omega) false (by simp [HMM.out]))
  unfold nodeV at KR
  clear hb4 KP
  go_wp2_with fail
  refine KR.out.mono ?_
  rintro e w5 ⟨rfl, hb5⟩
  have O5 := Lib.hid (bstep O4.out hb5)
  clear hb5 c0 c1
  go_wp2_with fail
  refine (awake18_any _).mono ?_
  rintro e w6 ⟨rfl, hb6⟩
  have O6 := Lib.hid (bstep O5.out hb6)
  clear hb6
  go_wp2_with fail
  go_ret
  exact ⟨by first | rfl | simp, O6.out⟩
set_option maxRecDepth 100000 in
set_option maxHeartbeats 4000000 in
theorem walk_good {w : World} (leaf : Bool) (A : Option Addr) (n c : Nat) (l : List E) (h : Ents w A n l) (hn : n ≤ 60) (hl : lightP l) (hm : mayP l leaf) :
    Calls Try.prog 3 #[nodeV leaf A n c] w fun e w' => e = .returned (.bool true) ∧ Below w.heap.size w w' := by
  have O0 := belowAlloc (Below.refl w.heap.size w) (.cells #[.bool leaf, .slice A n c] 24)
  have B0 := Lib.hid (Blk.new w 24 #[.bool leaf, .slice A n c])
  have HLEN := Lib.hid h.1
  have H0 := Lib.hid (h.below O0)
  have KL := Lib.hid (light_any (w := w.alloc (.cells #[.bool leaf, .slice A n c] 24)) leaf A n c l H0.out (by omega))
  have O0 := Lib.hid O0
  have HLL := Lib.hid hl
  have HMM := Lib.hid hm
  have HRS := Lib.hid (show ∀ r ∈ recsN leaf l, r.length ≤ 1000000 from fun r hr => by
    unfold recsN at hr
    rcases List.mem_cons.1 hr with rfl | hr
    · unfold kindB; split <;> decide
    · obtain ⟨e, he, rfl⟩ := List.mem_map.1 hr
      have := may_bounds hm e he
      rw [recE_length]; omega)
  clear h hl hm
  unfold nodeV at *
  go_enter Try.func3, Try.ntmps3
  go_wp2_with fail
  refine KL.out.mono ?_
  rintro e w1 ⟨⟨b, rfl, hb⟩, hb1⟩
  obtain rfl := hb.2 HLL.out
  have O1 := Lib.hid (bstep O0.out hb1)
  have B1 := Lib.hid (B0.out.below hb1 B0.out.lt)
  have H1 := Lib.hid (H0.out.below hb1)
  have c0 : w1.cell? ⟨w.heap.size, 0, none⟩ = some (.bool leaf) := B1.out.cell_some (i := 0) rfl
  have c1 : w1.cell? ⟨w.heap.size, 1, none⟩ = some (.slice A n c) := B1.out.cell_some (i := 1) rfl
  have KT := Lib.hid (to_any (w := w1) leaf A n c l H1.out (by omega))
  unfold nodeV at KT
  clear hb hb1 KL
  go_wp2_with fail
  refine KT.out.mono ?_
  rintro e w3 ⟨⟨TA, tc, rfl, TS, -⟩, hb3⟩
  have O3 := Lib.hid (bstep O1.out hb3)
  have B3 := Lib.hid (B1.out.below hb3 B1.out.lt)
  have H3 := Lib.hid (H1.out.below hb3)
  have KP := Lib.hid (put_yes (w := w3) leaf TA n tc l (Slc.ents TS).2 (by omega) HMM.out)
  unfold nodeV at KP
  clear hb3 TS KT c0 c1
  go_wp2_with fail
  refine KP.out.mono ?_
  rintro e w4 ⟨hx, hb4⟩
  have O4 := Lib.hid (bstep O3.out hb4)
  have B4 := Lib.hid (B3.out.below hb4 B3.out.lt)
  have H4 := Lib.hid (H3.out.below hb4)
  have c0 : w4.cell? ⟨w.heap.size, 0, none⟩ = some (.bool leaf) := B4.out.cell_some (i := 0) rfl
  have c1 : w4.cell? ⟨w.heap.size, 1, none⟩ = some (.slice A n c) := B4.out.cell_some (i := 1) rfl
  have KR := Lib.hid (right_ref (w := w4) leaf A n c l H4.out (by omega) true (by simp [HMM.out]))
  unfold nodeV at KR
  clear hb4 KP
  rcases hx with ⟨h0, T, rfl, sT, rT⟩ | ⟨h0, rfl⟩
  · have HT := Lib.hid (And.intro sT rT)
    have HH0 := Lib.hid h0
    have hz : T.size = 232 := by have := sT.len; simpa using this
    clear sT rT h0
    go_wp2_with fail
    refine KR.out.mono ?_
    rintro e w5 ⟨rfl, hb5⟩
    have O5 := Lib.hid (bstep O4.out hb5)
    have B5 := Lib.hid (B4.out.below hb5 B4.out.lt)
    have H5 := Lib.hid (H4.out.below hb5)
    clear c0 c1 KR
    have c0 : w5.cell? ⟨w.heap.size, 0, none⟩ = some (.bool leaf) := B5.out.cell_some (i := 0) rfl
    have c1 : w5.cell? ⟨w.heap.size, 1, none⟩ = some (.slice A n c) := B5.out.cell_some (i := 1) rfl
    have KC := Lib.hid (records_any (w := w5) leaf A n c l H5.out (by omega) HMM.out)
    unfold nodeV at KC
    clear hb5
    go_wp2_with fail
    refine KC.out.mono ?_
    rintro e w6 ⟨⟨RA, rc, rfl, RS⟩, hb6⟩
    have O6 := Lib.hid (bstep O5.out hb6)
    have R6 := Lib.hid RS
    have KM := Lib.hid (rroom_any RS (by omega) HRS.out)
    clear hb6 RS c0 c1 KC
    have hroom := HH0.out
    obtain ⟨room, hrm⟩ : ∃ room, roomR (recsN leaf l) = room := ⟨_, rfl⟩
    rw [hrm] at KM hroom
    clear hrm
    have hr2 : ¬ room < 0 := by omega
    go_wp2_with fail
    refine KM.out.mono ?_
    rintro e w7 ⟨rfl, rfl⟩
    go_wp2_with fail
    refine (awake18_any _).mono ?_
    rintro e w8 ⟨rfl, hb8⟩
    have O8 := Lib.hid (bstep O6.out hb8)
    have R8 := Lib.hid (R6.out.below hb8)
    have KK := Lib.hid (rcheck_any T w8 (by omega))
    rw [(checkF_ok _).2 HT.out.1] at KK
    clear hb8
    go_wp2_with fail
    refine KK.out.mono ?_
    rintro e w9 ⟨rfl, hb9⟩
    have O9 := Lib.hid (bstep O8.out hb9)
    have R9 := Lib.hid (R8.out.below hb9)
    have KA := Lib.hid (rall_any T w9 HT.out.1)
    clear hb9 KK
    go_wp2_with fail
    refine KA.out.mono ?_
    rintro e w10 ⟨v, rfl, VS, hb10, -⟩
    have O10 := Lib.hid (bstep O9.out hb10)
    have hnn : at2 T.data.toList 0 = n + 1 := by
      rw [← recs_length, HT.out.2, recsN_length, HLEN.out]
    rw [hnn, HT.out.2] at VS
    have KS := Lib.hid (same_any VS (R9.out.below hb10) (by omega))
    obtain ⟨VA, vc, rfl⟩ := slc_val VS
    clear hb10 VS KA
    go_wp2_with fail
    refine KS.out.mono ?_
    rintro e w11 ⟨rfl, hb11⟩
    have O11 := Lib.hid (bstep O10.out hb11)
    clear hb11
    go_wp2_with fail
    go_ret
    exact ⟨by first | rfl | simp, O11.out⟩
  · have HH0 := Lib.hid h0
    clear h0
    go_wp2_with fail
    refine KR.out.mono ?_
    rintro e w5 ⟨rfl, hb5⟩
    have O5 := Lib.hid (bstep O4.out hb5)
    have B5 := Lib.hid (B4.out.below hb5 B4.out.lt)
    have H5 := Lib.hid (H4.out.below hb5)
    clear c0 c1 KR
    have c0 : w5.cell? ⟨w.heap.size, 0, none⟩ = some (.bool leaf) := B5.out.cell_some (i := 0) rfl
    have c1 : w5.cell? ⟨w.heap.size, 1, none⟩ = some (.slice A n c) := B5.out.cell_some (i := 1) rfl
    have KC := Lib.hid (records_any (w := w5) leaf A n c l H5.out (by omega) HMM.out)
    unfold nodeV at KC
    clear hb5
    go_wp2_with fail
    refine KC.out.mono ?_
    rintro e w6 ⟨⟨RA, rc, rfl, RS⟩, hb6⟩
    have O6 := Lib.hid (bstep O5.out hb6)
    have KM := Lib.hid (rroom_any RS (by omega) HRS.out)
    clear hb6 RS c0 c1 KC
    have hroom := HH0.out
    obtain ⟨room, hrm⟩ : ∃ room, roomR (recsN leaf l) = room := ⟨_, rfl⟩
    rw [hrm] at KM hroom
    clear hrm
    go_wp2_with fail
    refine KM.out.mono ?_
    rintro e w7 ⟨rfl, rfl⟩
    go_wp2_with fail
    refine (awake18_any _).mono ?_
    rintro e w8 ⟨rfl, hb8⟩
    have O8 := Lib.hid (bstep O6.out hb8)
    clear hb8
    go_wp2_with fail
    go_ret
    exact ⟨by first | rfl | simp, O8.out⟩
theorem walk {H : Type} {enc : TypeId × Value → H} {w : World} {base : Nat} {v : Value} {d : DataW H} {ps : List MemPlace} (hok : Value.okWide Try.prog w .any base 24 v) (h : DataW.Trod enc Try.prog w 0 (fun _ => true) true 24 v d ps) :
    Calls Try.prog 3 #[v] w fun e w' => e = .returned (.bool true) ∧ Below w.heap.size w w' := by
  obtain ⟨leaf, A, n, c, l, rfl, hn, hE, -⟩ := node_of hok h
  unfold maxLen at hn
  by_cases hx : lightP l
  · have hn60 : n ≤ 60 := by have := hE.1; have := hx.1; omega
    by_cases hm : mayP l leaf
    · exact walk_good leaf A n c l hE hn60 hx hm
    · exact walk_bad leaf A n c l hE hn60 hx hm
  · exact walk_idle leaf A n c l hE (by omega) hx

set_option maxRecDepth 100000 in
theorem contract (H : Type) (enc : TypeId × Value → H) (W : World) (base : Nat) (args : Array Value) (ds gs : List (DataW H)) (before : List MemPlace)
    (hval0 : ∀ (j : Nat) t v, Try.f3.params[j]? = some t → args[j]? = some v → Value.okWide Try.prog W .any base t v)
    (hW : DataW.Whole enc Try.prog Try.f3.params.toList Rows.nodePutsSpec.vars false W args.toList ds gs before) :
    Calls Try.prog 3 args W fun e W' => ∃ v, e = .returned v ∧ Rows.nodePutsSpec.post enc Try.prog Try.f3 false true false false W args v W' := by
  have hval := hval0
  have hW' := hW
  obtain ⟨p, q, hA0, hV, rfl, hfz, hnd⟩ := hW
  have hA : DataW.TrodAll enc Try.prog W 0 (fun _ => true) true Try.f3.params.toList args.toList ds p := hA0
  have hlt : ∀ x ∈ p, x.block < W.heap.size := fun x hx => by simpa using hW'.lt x (List.mem_append_left _ hx)
  rw [Try.params3] at hA hval
  obtain ⟨v0, vs0, d0, ds0, p0, q0, hargs, rfl, rfl, h0, r0⟩ := trodAll_cons hA
  obtain ⟨rfl, rfl, rfl⟩ := trodAll_nil r0
  obtain rfl : args = #[v0] := by cases args; simp_all
  obtain ⟨rfl, rfl⟩ := trodVars_none hV
  refine (walk (hval 0 24 v0 rfl rfl) h0 ).mono fun e W1 ⟨he, hb⟩ => ?_
  subst he
  exact ⟨_, rfl, law_post laidOut hW' rfl (by kernel_rfl) (by rfl) Try.underlying4 rfl hb⟩

set_option maxRecDepth 100000 in
theorem lifted (os : Os) (started : os.Started) (H : Type) (enc : TypeId × Value → H) :
    ReturnsInHanded {} Try.checked os 3 .any (Rows.nodePutsSpec.pre6 enc Try.prog Try.f3 Rows.nodePutsRow.domain false) (Rows.nodePutsSpec.post enc Try.prog Try.f3 false true false false) := by
  refine returnsInHanded_of_change (C := Try.checked) own started (by kernel_rfl) Try.func3
    (ChangeSpec.witness6 (enc := enc) (C := Try.checked) false ⟨#[], #[.agg #[.bool false, .slice none 0 0]], []⟩ 8 (by kernel_rfl) (by kernel_rfl) (by kernel_rfl) (by kernel_rfl)) ?_
  intro W base args ds gs before hval0 hW hcnd _
  exact contract H enc W base args ds gs before hval0 hW

theorem proved : Rows.NodePutsSaid :=
  OpenClaim.holds_of_wide 3 Try.f3 rfl rfl rfl rfl rfl rfl rfl ⟨rfl, rfl, rfl, rfl, rfl⟩ rfl rfl rfl rfl rfl (by kernel_rfl) Try.func3 (by kernel_rfl)
    (of_decide_eq_true (by kernel_rfl)) (by unfold Func.isWrapper; first | (rw [if_pos (by decide +kernel)]; kernel_rfl) | (rw [if_neg (by decide +kernel)]; exact ⟨rfl, rfl⟩))
    (fun os started H enc _ => lifted os started H enc)
#print axioms proved
end Go.Proofs.Yticehnnbjbliaab.nodePuts
