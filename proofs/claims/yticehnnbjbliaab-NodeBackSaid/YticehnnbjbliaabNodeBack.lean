/-
  NodeBack: for every input the law returns true, and each argument reads behind the call as before. No condition of its own.
-/
import Derived.Test.YticehnnbjbliaabNd22
namespace Go.Proofs.Yticehnnbjbliaab.nodeBack
open Go.ChangeShapes Go.WideShapes Go.ChangeAt Go.RowKit
open Go.ChangeMaps (open_string shut_string)
set_option linter.unusedVariables false

open Sl Nd
attribute [local go_sem ↓] Go.wp_at_zero Go.wp_at_succ
set_option maxRecDepth 100000 in
set_option maxHeartbeats 4000000 in
theorem walk_idle {w : World} (leaf : Bool) (A : Option Addr) (n c : Nat) (l : List E) (h : Ents w A n l) (hn : n ≤ 9223372036854775807) (hno : ¬ lightP l) :
    Calls Try.prog 5 #[nodeV leaf A n c] w fun e w' => e = .returned (.bool true) ∧ Below w.heap.size w w' := by
  have O0 := belowAlloc (Below.refl w.heap.size w) (.cells #[.bool leaf, .slice A n c] 24)
  have H0 := Lib.hid (h.below O0)
  have KL := Lib.hid (light_any (w := w.alloc (.cells #[.bool leaf, .slice A n c] 24)) leaf A n c l H0.out hn)
  have O0 := Lib.hid O0
  have HNO := Lib.hid hno
  clear h hno
  unfold nodeV at *
  go_enter Try.func5, Try.ntmps5
  go_wp2_with fail
  refine KL.out.mono ?_
  rintro e w1 ⟨⟨b, rfl, hb⟩, hb1⟩
  have O1 := Lib.hid (bstep O0.out hb1)
  obtain rfl : b = false := by
    cases b
    · rfl
    · exact absurd (hb.1 rfl) HNO.out
  clear hb hb1
  go_wp2_with fail
  refine (awake18_any _).mono ?_
  rintro e w3 ⟨rfl, hb3⟩
  have O3 := Lib.hid (bstep O1.out hb3)
  clear hb3
  go_wp2_with fail
  go_ret
  exact ⟨rfl, O3.out⟩
set_option maxRecDepth 100000 in
set_option maxHeartbeats 4000000 in
theorem walk_bad {w : World} (leaf : Bool) (A : Option Addr) (n c : Nat) (l : List E) (h : Ents w A n l) (hn : n ≤ 60) (hl : lightP l) (hm : ¬ mayP l leaf) :
    Calls Try.prog 5 #[nodeV leaf A n c] w fun e w' => e = .returned (.bool true) ∧ Below w.heap.size w w' := by
  have O0 := belowAlloc (Below.refl w.heap.size w) (.cells #[.bool leaf, .slice A n c] 24)
  have B0 := Lib.hid (Blk.new w 24 #[.bool leaf, .slice A n c])
  have H0 := Lib.hid (h.below O0)
  have KL := Lib.hid (light_any (w := w.alloc (.cells #[.bool leaf, .slice A n c] 24)) leaf A n c l H0.out (by omega))
  have O0 := Lib.hid O0
  have HLL := Lib.hid hl
  have HMM := Lib.hid hm
  clear h hl hm
  unfold nodeV at *
  go_enter Try.func5, Try.ntmps5
  go_wp2_with fail
  refine KL.out.mono ?_
  rintro e w1 ⟨⟨b, rfl, hb⟩, hb1⟩
  obtain rfl := hb.2 HLL.out
  have O1 := Lib.hid (bstep O0.out hb1)
  have B1 := Lib.hid (B0.out.below hb1 B0.out.lt)
  have H1 := Lib.hid (H0.out.below hb1)
  have c0 : w1.cell? ⟨w.heap.size, 0, none⟩ = some (.bool leaf) := B1.out.cell_some (i := 0) rfl
  have c1 : w1.cell? ⟨w.heap.size, 1, none⟩ = some (.slice A n c) := B1.out.cell_some (i := 1) rfl
  have KT := Lib.hid (to_any (w := w1) leaf A n c l H1.out (by omega))
  unfold nodeV at KT
  clear hb hb1 KL
  go_wp2_with fail
  refine KT.out.mono ?_
  rintro e w3 ⟨⟨TA, tc, rfl, TS, -⟩, hb3⟩
  have O3 := Lib.hid (bstep O1.out hb3)
  have B3 := Lib.hid (B1.out.below hb3 B1.out.lt)
  have H3 := Lib.hid (H1.out.below hb3)
  have KP := Lib.hid (put_no (w := w3) leaf TA n tc l (Slc.ents TS).2 (by omega) HMM.out)
  unfold nodeV at KP
  clear hb3 TS KT c0 c1
  go_wp2_with fail
  refine KP.out.mono ?_
  rintro e w4 ⟨rfl, hb4⟩
  have O4 := Lib.hid (bstep O3.out hb4)
  clear hb4
  go_wp2_with fail
  refine (awake18_any _).mono ?_
  rintro e w6 ⟨rfl, hb6⟩
  have O6 := Lib.hid (bstep O4.out hb6)
  clear hb6
  go_wp2_with fail
  go_ret
  exact ⟨by first | rfl | simp, O6.out⟩
set_option maxRecDepth 100000 in
set_option maxHeartbeats 4000000 in
theorem walk_good {w : World} (leaf : Bool) (A : Option Addr) (n c : Nat) (l : List E) (h : Ents w A n l) (hn : n ≤ 60) (hl : lightP l) (hm : mayP l leaf) :
    Calls Try.prog 5 #[nodeV leaf A n c] w fun e w' => e = .returned (.bool true) ∧ Below w.heap.size w w' := by
  have O0 := belowAlloc (Below.refl w.heap.size w) (.cells #[.bool leaf, .slice A n c] 24)
  have B0 := Lib.hid (Blk.new w 24 #[.bool leaf, .slice A n c])
  have HLEN := Lib.hid h.1
  have H0 := Lib.hid (h.below O0)
  have KL := Lib.hid (light_any (w := w.alloc (.cells #[.bool leaf, .slice A n c] 24)) leaf A n c l H0.out (by omega))
  have O0 := Lib.hid O0
  have HLL := Lib.hid hl
  have HMM := Lib.hid hm
  have HRS := Lib.hid (show ∀ r ∈ recsN leaf l, r.length ≤ 1000000 from fun r hr => by
    unfold recsN at hr
    rcases List.mem_cons.1 hr with rfl | hr
    · unfold kindB; split <;> decide
    · obtain ⟨e, he, rfl⟩ := List.mem_map.1 hr
      have := may_bounds hm e he
      rw [recE_length]; omega)
  clear h hl hm
  unfold nodeV at *
  go_enter Try.func5, Try.ntmps5
  go_wp2_with fail
  refine KL.out.mono ?_
  rintro e w1 ⟨⟨b, rfl, hb⟩, hb1⟩
  obtain rfl := hb.2 HLL.out
  have O1 := Lib.hid (bstep O0.out hb1)
  have B1 := Lib.hid (B0.out.below hb1 B0.out.lt)
  have H1 := Lib.hid (H0.out.below hb1)
  have c0 : w1.cell? ⟨w.heap.size, 0, none⟩ = some (.bool leaf) := B1.out.cell_some (i := 0) rfl
  have c1 : w1.cell? ⟨w.heap.size, 1, none⟩ = some (.slice A n c) := B1.out.cell_some (i := 1) rfl
  have KT := Lib.hid (to_any (w := w1) leaf A n c l H1.out (by omega))
  unfold nodeV at KT
  clear hb hb1 KL
  go_wp2_with fail
  refine KT.out.mono ?_
  rintro e w3 ⟨⟨TA, tc, rfl, TS, -⟩, hb3⟩
  have O3 := Lib.hid (bstep O1.out hb3)
  have B3 := Lib.hid (B1.out.below hb3 B1.out.lt)
  have H3 := Lib.hid (H1.out.below hb3)
  have KP := Lib.hid (put_yes (w := w3) leaf TA n tc l (Slc.ents TS).2 (by omega) HMM.out)
  unfold nodeV at KP
  clear hb3 TS KT c0 c1
  go_wp2_with fail
  refine KP.out.mono ?_
  rintro e w4 ⟨hx, hb4⟩
  have O4 := Lib.hid (bstep O3.out hb4)
  have B4 := Lib.hid (B3.out.below hb4 B3.out.lt)
  have H4 := Lib.hid (H3.out.below hb4)
  have c0 : w4.cell? ⟨w.heap.size, 0, none⟩ = some (.bool leaf) := B4.out.cell_some (i := 0) rfl
  have c1 : w4.cell? ⟨w.heap.size, 1, none⟩ = some (.slice A n c) := B4.out.cell_some (i := 1) rfl
  clear hb4 KP c0 c1
  rcases hx with ⟨h0, T, rfl, sT, rT⟩ | ⟨h0, rfl⟩
  · have HT := Lib.hid (And.intro sT rT)
    have hz : T.size = 232 := by have := sT.len; simpa using this
    have KG := Lib.hid (got_any T w4 (by omega))
    clear sT rT h0
    go_wp2_with fail
    refine KG.out.mono ?_
    rintro e w5 hgt
    have hgt2 : ∃ GA m gc, e = .returned (.tuple #[nodeV leaf GA m gc, .int .i64 0]) ∧ Slc w5 56 3 (.slice GA m gc) m (ents l) ∧ Below w4.heap.size w4 w5 := by
      rcases hgt with ⟨h0, -⟩ | ⟨-, hgt, hb⟩
      · exact absurd ((checkF_ok _).2 HT.out.1) h0
      · rw [HT.out.2] at hgt
        rcases hgt with ⟨hno, -⟩ | ⟨-, GA, m, gc, rfl, S, -⟩
        · exact absurd (readOk_recs HMM.out) hno
        · rw [leafR_recs, readE_recs HMM.out] at *
          exact ⟨GA, m, gc, rfl, S, hb⟩
    obtain ⟨GA, m, gc, rfl, S, hb5⟩ := hgt2
    have O5 := bstep O4.out hb5
    obtain ⟨-, EM⟩ := Slc.ents S
    obtain rfl : m = n := by rw [← EM.1, HLEN.out]
    have a5 := belowAlloc (Below.refl w5.heap.size w5) (.cells #[.bool leaf, .slice GA m gc] 32)
    have O6 := Lib.hid (bstep O5 a5)
    have B6 := Lib.hid ((B4.out.below hb5 B4.out.lt).alloc (.cells #[.bool leaf, .slice GA m gc] 32))
    have H6 := Lib.hid ((H4.out.below hb5).below a5)
    have E6 := Lib.hid (EM.below a5)
    have BM := Lib.hid (Blk.new w5 32 #[.bool leaf, .slice GA m gc])
    clear hgt hb5 S EM a5 O5 KG
    unfold nodeV
    go_wp2_with fail
    generalize hwx : (w5.alloc (.cells #[.bool leaf, .slice GA m gc] 32)) = wx at *
    clear hwx
    have HK := Lib.hid (show ∀ W', Below wx.heap.size wx W' → (W'.cell? ⟨w.heap.size, 0, none⟩ = some (.bool leaf) ∧ W'.cell? ⟨w.heap.size, 1, none⟩ = some (.slice A m c) ∧ W'.cell? ⟨w5.heap.size, 0, none⟩ = some (.bool leaf) ∧ W'.cell? ⟨w5.heap.size, 1, none⟩ = some (.slice GA m gc)) from fun W' ho => ⟨(B6.out.below ho B6.out.lt).cell_some (i := 0) rfl, (B6.out.below ho B6.out.lt).cell_some (i := 1) rfl, (BM.out.below ho BM.out.lt).cell_some (i := 0) rfl, (BM.out.below ho BM.out.lt).cell_some (i := 1) rfl⟩)
    have OD := Lib.hid ((Below.refl wx.heap.size wx).drew)
    refine wp_region_held_drew (S := fun W' => W'.cell? ⟨w.heap.size, 0, none⟩ = some (.bool leaf) ∧ W'.cell? ⟨w.heap.size, 1, none⟩ = some (.slice A m c) ∧ W'.cell? ⟨w5.heap.size, 0, none⟩ = some (.bool leaf) ∧ W'.cell? ⟨w5.heap.size, 1, none⟩ = some (.slice GA m gc)) (by kernel_rfl) (HK.out _ OD.out) (fun hHeld => ?_)
    refine wpAnyH_ready (rs := [0]) (by kernel_rfl) (by simp) ?_
    refine AllReadyH.cons (o := ⟨some 29, _, _, _, _, _⟩) rfl (fun K hK => ?_) AllReadyH.nil
    go_simp
    go_at_call 9
    refine (awake18_any _).mono ?_
    rintro e w6 ⟨rfl, hb6⟩
    have P6 := Lib.hid (bstep OD.out hb6)
    go_simp
    refine hK.out _ _ (HK.out _ P6.out) (fun hHeld => ?_)
    try simp only [Act.put, List.setIfInBounds_toArray, List.set_cons_zero, List.set_cons_succ]
    refine wpAnyH_take (i := 1) (oi := ⟨some 30, _, _, _, _, _⟩) (v := ?_) rfl (by kernel_rfl) (by kernel_rfl) (by kernel_rfl) (fun _ _ _ h => h) (Or.inl ⟨by kernel_rfl, ?_⟩) (by assumption) ?_
    rotate_left
    · (intro w hSw; (try dsimp only at hSw); go_simp; (try (with_reducible rfl)))
    try simp only [Act.put, List.setIfInBounds_toArray, List.set_cons_zero, List.set_cons_succ]
    refine wpAnyH_take (i := 2) (oi := ⟨some 31, _, _, _, _, _⟩) (v := ?_) rfl (by kernel_rfl) (by kernel_rfl) (by kernel_rfl) (fun _ _ _ h => h) (Or.inl ⟨by kernel_rfl, ?_⟩) (by assumption) ?_
    rotate_left
    · (intro w hSw; (try dsimp only at hSw); go_simp; (try (with_reducible rfl)))
    try simp only [Act.put, List.setIfInBounds_toArray, List.set_cons_zero, List.set_cons_succ]
    refine wpAnyH_take (i := 3) (oi := ⟨some 32, _, _, _, _, _⟩) (v := ?_) rfl (by kernel_rfl) (by kernel_rfl) (by kernel_rfl) (fun _ _ _ h => h) (Or.inl ⟨by kernel_rfl, ?_⟩) (by assumption) ?_
    rotate_left
    · (intro w hSw; (try dsimp only at hSw); go_simp; (try (with_reducible rfl)))
    try simp only [Act.put, List.setIfInBounds_toArray, List.set_cons_zero, List.set_cons_succ]
    refine wpAnyH_take (i := 4) (oi := ⟨some 33, _, _, _, _, _⟩) (v := ?_) rfl (by kernel_rfl) (by kernel_rfl) (by kernel_rfl) (fun _ _ _ h => h) (Or.inl ⟨by kernel_rfl, ?_⟩) (by assumption) ?_
    rotate_left
    · (intro w hSw; (try dsimp only at hSw); go_simp; (try (with_reducible rfl)))
    try simp only [Act.put, List.setIfInBounds_toArray, List.set_cons_zero, List.set_cons_succ]
    refine wpAnyH_take (i := 5) (oi := ⟨some 34, _, _, _, _, _⟩) (v := ?_) rfl (by kernel_rfl) (by kernel_rfl) (by kernel_rfl) (fun _ _ _ h => h) (Or.inl ⟨by kernel_rfl, ?_⟩) (by assumption) ?_
    rotate_left
    · (intro w hSw; (try dsimp only at hSw); go_simp; (try (with_reducible rfl)))
    try simp only [Act.put, List.setIfInBounds_toArray, List.set_cons_zero, List.set_cons_succ]
    refine wpAnyH_take (i := 6) (oi := ⟨some 35, _, _, _, _, _⟩) (v := ?_) rfl (by kernel_rfl) (by kernel_rfl) (by kernel_rfl) (fun _ _ _ h => h) (Or.inl ⟨by kernel_rfl, ?_⟩) (by assumption) ?_
    rotate_left
    · (intro w hSw; (try dsimp only at hSw); go_simp; (try (with_reducible rfl)))
    try simp only [Act.put, List.setIfInBounds_toArray, List.set_cons_zero, List.set_cons_succ]
    refine wpAnyH_take (i := 8) (oi := ⟨some 37, _, _, _, _, _⟩) (v := ?_) rfl (by kernel_rfl) (by kernel_rfl) (by kernel_rfl) (fun _ _ _ h => h) (Or.inl ⟨by kernel_rfl, ?_⟩) (by assumption) ?_
    rotate_left
    · (intro w hSw; (try dsimp only at hSw); go_simp; (try (with_reducible rfl)))
    try simp only [Act.put, List.setIfInBounds_toArray, List.set_cons_zero, List.set_cons_succ]
    refine wpAnyH_ready (rs := [7]) (by kernel_rfl) (by simp) ?_
    refine AllReadyH.cons (o := ⟨some 36, _, _, _, _, _⟩) rfl (fun K hK => ?_) AllReadyH.nil
    go_simp
    go_at_call 20
    have KO := of18_any (w := w6) leaf GA m gc l (E6.out.below P6.out) (by omega)
    unfold nodeV at KO
    refine KO.mono ?_
    rintro e w7 ⟨⟨OA, oc, rfl, OS, -⟩, hb7⟩
    have P7 := Lib.hid (bstep P6.out hb7)
    have EO := Lib.hid (Slc.ents OS).2
    clear OS
    go_simp
    refine hK.out _ _ (HK.out _ P7.out) (fun hHeld => ?_)
    try simp only [Act.put, List.setIfInBounds_toArray, List.set_cons_zero, List.set_cons_succ]
    refine wpAnyH_ready (rs := [9]) (by kernel_rfl) (by simp) ?_
    refine AllReadyH.cons (o := ⟨some 38, _, _, _, _, _⟩) rfl (fun K hK => ?_) AllReadyH.nil
    go_simp
    go_at_call 19
    have KS := rsame18_any (w := w7) leaf leaf OA A m oc m c l l EO.out (H6.out.below P7.out) (by omega) (by omega) true (by simp)
    unfold nodeV at KS
    refine KS.mono ?_
    rintro e w8 ⟨rfl, hb8⟩
    have P8 := Lib.hid (bstep P7.out hb8)
    go_simp
    refine hK.out _ _ (HK.out _ P8.out) (fun hHeld => ?_)
    try simp only [Act.put, List.setIfInBounds_toArray, List.set_cons_zero, List.set_cons_succ]
    refine wpAnyH_take (i := 10) (oi := ⟨some 39, _, _, _, _, _⟩) (v := ?_) rfl (by kernel_rfl) (by kernel_rfl) (by kernel_rfl) (fun _ _ _ h => h) (Or.inl ⟨by kernel_rfl, ?_⟩) (by assumption) ?_
    rotate_left
    · (intro w hSw; (try dsimp only at hSw); go_simp; (try (with_reducible rfl)))
    try simp only [Act.put, List.setIfInBounds_toArray, List.set_cons_zero, List.set_cons_succ]
    refine wpAnyH_take (i := 11) (oi := ⟨some 2, _, _, _, _, _⟩) (v := ?_) rfl (by kernel_rfl) (by kernel_rfl) (by kernel_rfl) (fun _ _ _ h => h) (Or.inl ⟨by kernel_rfl, ?_⟩) (by assumption) ?_
    rotate_left
    · (intro w hSw; (try dsimp only at hSw); go_simp; (try (with_reducible rfl)))
    try simp only [Act.put, List.setIfInBounds_toArray, List.set_cons_zero, List.set_cons_succ]
    refine wpAnyH_done (by kernel_rfl) ?_ _
    have PP := Lib.hid (bstep O6.out P8.out)
    go_wp2_with fail
    go_ret
    exact ⟨by first | rfl | simp, PP.out⟩
  · clear h0
    go_wp2_with fail
    refine (awake18_any _).mono ?_
    rintro e w6 ⟨rfl, hb6⟩
    have O6 := Lib.hid (bstep O4.out hb6)
    clear hb6
    go_wp2_with fail
    go_ret
    exact ⟨by first | rfl | simp, O6.out⟩
theorem walk {H : Type} {enc : TypeId × Value → H} {w : World} {base : Nat} {v : Value} {d : DataW H} {ps : List MemPlace} (hok : Value.okWide Try.prog w .any base 24 v) (h : DataW.Trod enc Try.prog w 0 (fun _ => true) true 24 v d ps) :
    Calls Try.prog 5 #[v] w fun e w' => e = .returned (.bool true) ∧ Below w.heap.size w w' := by
  obtain ⟨leaf, A, n, c, l, rfl, hn, hE, -⟩ := node_of hok h
  unfold maxLen at hn
  by_cases hx : lightP l
  · have hn60 : n ≤ 60 := by have := hE.1; have := hx.1; omega
    by_cases hm : mayP l leaf
    · exact walk_good leaf A n c l hE hn60 hx hm
    · exact walk_bad leaf A n c l hE hn60 hx hm
  · exact walk_idle leaf A n c l hE (by omega) hx

set_option maxRecDepth 100000 in
theorem contract (H : Type) (enc : TypeId × Value → H) (W : World) (base : Nat) (args : Array Value) (ds gs : List (DataW H)) (before : List MemPlace)
    (hval0 : ∀ (j : Nat) t v, Try.f5.params[j]? = some t → args[j]? = some v → Value.okWide Try.prog W .any base t v)
    (hW : DataW.Whole enc Try.prog Try.f5.params.toList Rows.nodeBackSpec.vars false W args.toList ds gs before) :
    Calls Try.prog 5 args W fun e W' => ∃ v, e = .returned v ∧ Rows.nodeBackSpec.post enc Try.prog Try.f5 false true false false W args v W' := by
  have hval := hval0
  have hW' := hW
  obtain ⟨p, q, hA0, hV, rfl, hfz, hnd⟩ := hW
  have hA : DataW.TrodAll enc Try.prog W 0 (fun _ => true) true Try.f5.params.toList args.toList ds p := hA0
  have hlt : ∀ x ∈ p, x.block < W.heap.size := fun x hx => by simpa using hW'.lt x (List.mem_append_left _ hx)
  rw [Try.params5] at hA hval
  obtain ⟨v0, vs0, d0, ds0, p0, q0, hargs, rfl, rfl, h0, r0⟩ := trodAll_cons hA
  obtain ⟨rfl, rfl, rfl⟩ := trodAll_nil r0
  obtain rfl : args = #[v0] := by cases args; simp_all
  obtain ⟨rfl, rfl⟩ := trodVars_none hV
  refine (walk (hval 0 24 v0 rfl rfl) h0 ).mono fun e W1 ⟨he, hb⟩ => ?_
  subst he
  exact ⟨_, rfl, law_post laidOut hW' rfl (by kernel_rfl) (by rfl) Try.underlying4 rfl hb⟩

set_option maxRecDepth 100000 in
theorem lifted (os : Os) (started : os.Started) (H : Type) (enc : TypeId × Value → H) :
    ReturnsInHanded {} Try.checked os 5 .any (Rows.nodeBackSpec.pre6 enc Try.prog Try.f5 Rows.nodeBackRow.domain false) (Rows.nodeBackSpec.post enc Try.prog Try.f5 false true false false) := by
  refine returnsInHanded_of_change (C := Try.checked) own started (by kernel_rfl) Try.func5
    (ChangeSpec.witness6 (enc := enc) (C := Try.checked) false ⟨#[], #[.agg #[.bool false, .slice none 0 0]], []⟩ 8 (by kernel_rfl) (by kernel_rfl) (by kernel_rfl) (by kernel_rfl)) ?_
  intro W base args ds gs before hval0 hW hcnd _
  exact contract H enc W base args ds gs before hval0 hW

theorem proved : Rows.NodeBackSaid :=
  OpenClaim.holds_of_wide 5 Try.f5 rfl rfl rfl rfl rfl rfl rfl ⟨rfl, rfl, rfl, rfl, rfl⟩ rfl rfl rfl rfl rfl (by kernel_rfl) Try.func5 (by kernel_rfl)
    (of_decide_eq_true (by kernel_rfl)) (by unfold Func.isWrapper; first | (rw [if_pos (by decide +kernel)]; kernel_rfl) | (rw [if_neg (by decide +kernel)]; exact ⟨rfl, rfl⟩))
    (fun os started H enc _ => lifted os started H enc)
#print axioms proved
end Go.Proofs.Yticehnnbjbliaab.nodeBack
