/-
  NodeGets: for every input the law returns true, and each argument reads behind the call as before. No condition of its own.
-/
import Derived.Test.YticehnnbjbliaabNd23
namespace Go.Proofs.Yticehnnbjbliaab.nodeGets
open Go.ChangeShapes Go.WideShapes Go.ChangeAt Go.RowKit
open Go.ChangeMaps (open_string shut_string)
set_option linter.unusedVariables false

open Sl Nd
attribute [local go_sem ↓] Go.wp_at_zero Go.wp_at_succ
set_option maxRecDepth 100000 in
set_option maxHeartbeats 4000000 in
theorem walk_idle (s : ByteArray) (hs : 600 < s.size) (w : World) :
    Calls Try.prog 4 #[.string s] w fun e w' => e = .returned (.bool true) ∧ Below w.heap.size w w' := by
  have h1 : (600 : Int) < (s.size : Int) := by omega
  go_enter Try.func4, Try.ntmps4
  go_wp2_with fail
  refine (awake18_any _).mono ?_
  rintro e w3 ⟨rfl, hb3⟩
  have O3 := Lib.hid hb3
  clear hb3
  go_wp2_with fail
  go_ret
  exact ⟨rfl, O3.out⟩
set_option maxRecDepth 100000 in
set_option maxHeartbeats 4000000 in
theorem walk_in (s : ByteArray) (hs : s.size ≤ 600) (w : World) :
    Calls Try.prog 4 #[.string s] w fun e w' => e = .returned (.bool true) ∧ Below w.heap.size w w' := by
  have h1 : ¬ (600 : Int) < (s.size : Int) := by omega
  have KG := Lib.hid (got_any s w (by omega))
  have KC := Lib.hid (fun w => rcheck_any s w (by omega))
  go_enter Try.func4, Try.ntmps4
  go_wp2_with fail
  refine KG.out.mono ?_
  rintro e w1 hgt
  rcases hgt with ⟨hq, rfl, hb1⟩ | ⟨hq, hgt, hb1⟩
  · have q2 : (checkF s.data.toList == 0) = false := by simpa using hq
    generalize checkF s.data.toList = q at *
    clear KG
    unfold nodeV
    have a1 := belowAlloc (Below.refl w1.heap.size w1) (.cells #[.bool false, .slice none 0 0] 32)
    have BM := Lib.hid (Blk.new w1 32 #[.bool false, .slice none 0 0])
    have O1 := Lib.hid (bstep hb1 a1)
    clear hb1 a1
    go_wp2_with fail
    generalize hwx : (w1.alloc (.cells #[.bool false, .slice none 0 0] 32)) = wx at *
    clear hwx
    refine (KC.out _).mono ?_
    rintro e w2 ⟨rfl, hb2⟩
    have O2 := Lib.hid (bstep O1.out hb2)
    have BM2 := Lib.hid (BM.out.below hb2 BM.out.lt)
    clear hb2
    go_wp2_with fail
    refine (awake18_any _).mono ?_
    rintro e w3 ⟨rfl, hb3⟩
    have O3 := Lib.hid (bstep O2.out hb3)
    have BM3 := Lib.hid (BM2.out.below hb3 BM2.out.lt)
    have m0 : w3.cell? ⟨w1.heap.size, 0, none⟩ = some (.bool false) := BM3.out.cell_some (i := 0) rfl
    have m1 : w3.cell? ⟨w1.heap.size, 1, none⟩ = some (.slice none 0 0) := BM3.out.cell_some (i := 1) rfl
    have KO := Lib.hid (of18_any (w := w3) false none 0 0 [] ⟨rfl, fun k e h => by simp at h⟩ (by omega))
    unfold nodeV at KO
    clear hb3
    go_wp2_with fail
    refine KO.out.mono ?_
    rintro e w4 ⟨⟨OA, oc, rfl, OS, -⟩, hb4⟩
    have O4 := Lib.hid (bstep O3.out hb4)
    have KS := Lib.hid (rsame18_any (w := w4) false false OA none 0 oc 0 0 [] [] (Slc.ents OS).2 ⟨rfl, fun k e h => by simp at h⟩ (by omega) (by omega) true (by simp))
    unfold nodeV at KS
    clear hb4 OS KO m0 m1
    go_wp2_with fail
    refine KS.out.mono ?_
    rintro e w5 ⟨rfl, hb5⟩
    have O5 := Lib.hid (bstep O4.out hb5)
    clear hb5
    go_wp2_with fail
    go_ret
    exact ⟨by first | rfl | simp, O5.out⟩
  · have hS := (checkF_ok _).1 hq
    have hm := recs_many hS
    have hsm := recs_small hS
    have HS := Lib.hid hS
    have hN := recs_length s.data.toList
    have KA := Lib.hid (fun w => rall_any s w hS)
    rw [hq] at KC
    obtain ⟨rs, hrs⟩ : ∃ rs, recs s.data.toList = rs := ⟨_, rfl⟩
    rw [hrs] at hgt hm hsm hN KA
    rw [← hN] at KA
    have HSM := Lib.hid (show ∀ r ∈ rs, r.length ≤ 300 from fun r hr => by have := hsm r hr; omega)
    have HLE := Lib.hid (show (readE rs).length ≤ 100 from by unfold readE; rw [List.length_map, List.length_tail]; omega)
    clear hS hsm hN hrs hq KG
    rcases hgt with ⟨hno, rfl⟩ | ⟨hyes, GA, n, gc, rfl, GS, -⟩
    · have HNO := Lib.hid hno
      clear hno
      unfold nodeV
      have a1 := belowAlloc (Below.refl w1.heap.size w1) (.cells #[.bool false, .slice none 0 0] 32)
      have BM := Lib.hid (Blk.new w1 32 #[.bool false, .slice none 0 0])
      have O1 := Lib.hid (bstep hb1 a1)
      clear hb1 a1
      go_wp2_with fail
      generalize hwx : (w1.alloc (.cells #[.bool false, .slice none 0 0] 32)) = wx at *
      clear hwx
      refine (KC.out _).mono ?_
      rintro e w2 ⟨rfl, hb2⟩
      have O2 := Lib.hid (bstep O1.out hb2)
      have BM2 := Lib.hid (BM.out.below hb2 BM.out.lt)
      clear hb2
      go_wp2_with fail
      refine (KA.out _).mono ?_
      rintro e w6 ⟨v, rfl, VS, hb6, -⟩
      have O6 := Lib.hid (bstep O2.out hb6)
      have BM6 := Lib.hid (BM2.out.below hb6 BM2.out.lt)
      obtain ⟨VA, vc, rfl⟩ := slc_val VS
      have KR := Lib.hid (rread_any VA vc rs VS (by omega) HSM.out)
      clear hb6 VS
      go_wp2_with fail
      refine KR.out.mono ?_
      rintro e w7 ⟨hx, hb7⟩
      rcases hx with ⟨-, rfl⟩ | ⟨hy, -⟩
      · have a7 := belowAlloc (Below.refl w7.heap.size w7) (.cells #[.bool false, .slice none 0 0] 24)
        have O7 := Lib.hid (bstep (bstep O6.out hb7) a7)
        have BM7 := Lib.hid ((BM6.out.below hb7 BM6.out.lt).alloc (.cells #[.bool false, .slice none 0 0] 24))
        clear hb7 a7 KR
        unfold nodeV
        go_wp2_with fail
        generalize hwy : (w7.alloc (.cells #[.bool false, .slice none 0 0] 24)) = wy at *
        clear hwy
        refine (awake18_any _).mono ?_
        rintro e w3 ⟨rfl, hb3⟩
        have O3 := Lib.hid (bstep O7.out hb3)
        have BM3 := Lib.hid (BM7.out.below hb3 BM7.out.lt)
        have m0 : w3.cell? ⟨w1.heap.size, 0, none⟩ = some (.bool false) := BM3.out.cell_some (i := 0) rfl
        have m1 : w3.cell? ⟨w1.heap.size, 1, none⟩ = some (.slice none 0 0) := BM3.out.cell_some (i := 1) rfl
        have KO := Lib.hid (of18_any (w := w3) false none 0 0 [] ⟨rfl, fun k e h => by simp at h⟩ (by omega))
        unfold nodeV at KO
        clear hb3
        go_wp2_with fail
        refine KO.out.mono ?_
        rintro e w4 ⟨⟨OA, oc, rfl, OS, -⟩, hb4⟩
        have O4 := Lib.hid (bstep O3.out hb4)
        have KS := Lib.hid (rsame18_any (w := w4) false false OA none 0 oc 0 0 [] [] (Slc.ents OS).2 ⟨rfl, fun k e h => by simp at h⟩ (by omega) (by omega) true (by simp))
        unfold nodeV at KS
        clear hb4 OS KO m0 m1
        go_wp2_with fail
        refine KS.out.mono ?_
        rintro e w5 ⟨rfl, hb5⟩
        have O5 := Lib.hid (bstep O4.out hb5)
        clear hb5
        go_wp2_with fail
        go_ret
        exact ⟨by first | rfl | simp, O5.out⟩
      · exact absurd hy HNO.out
    · have HY := Lib.hid hyes
      clear hyes
      obtain ⟨leaf, hlf⟩ : ∃ leaf, leafR rs = leaf := ⟨_, rfl⟩
      obtain ⟨l, hll⟩ : ∃ l, readE rs = l := ⟨_, rfl⟩
      rw [hlf]
      rw [hll] at GS HLE
      obtain ⟨-, EM⟩ := Slc.ents GS
      have hln := EM.1
      have hle := HLE.out
      have a1 := belowAlloc (Below.refl w1.heap.size w1) (.cells #[.bool leaf, .slice GA n gc] 32)
      have BM := Lib.hid (Blk.new w1 32 #[.bool leaf, .slice GA n gc])
      have O1 := Lib.hid (bstep hb1 a1)
      have E1 := Lib.hid (EM.below a1)
      clear hb1 a1 EM GS
      unfold nodeV
      go_wp2_with fail
      generalize hwx : (w1.alloc (.cells #[.bool leaf, .slice GA n gc] 32)) = wx at *
      clear hwx
      refine (KC.out _).mono ?_
      rintro e w2 ⟨rfl, hb2⟩
      have O2 := Lib.hid (bstep O1.out hb2)
      have BM2 := Lib.hid (BM.out.below hb2 BM.out.lt)
      have E2 := Lib.hid (E1.out.below hb2)
      clear hb2
      go_wp2_with fail
      refine (KA.out _).mono ?_
      rintro e w6 ⟨v, rfl, VS, hb6, -⟩
      have O6 := Lib.hid (bstep O2.out hb6)
      have BM6 := Lib.hid (BM2.out.below hb6 BM2.out.lt)
      have E6 := Lib.hid (E2.out.below hb6)
      obtain ⟨VA, vc, rfl⟩ := slc_val VS
      have KR := Lib.hid (rread_any VA vc rs VS (by omega) HSM.out)
      clear hb6 VS
      go_wp2_with fail
      refine KR.out.mono ?_
      rintro e w7 ⟨hx, hb7⟩
      rcases hx with ⟨hno, -⟩ | ⟨-, RA, rn, rc, rfl, RS, -⟩
      · exact absurd HY.out hno
      · rw [hll] at RS
        rw [hlf]
        obtain ⟨-, ER⟩ := Slc.ents RS
        obtain rfl : rn = n := by rw [← ER.1, hln]
        have a7 := belowAlloc (Below.refl w7.heap.size w7) (.cells #[.bool leaf, .slice RA rn rc] 24)
        have O7 := Lib.hid (bstep (bstep O6.out hb7) a7)
        have BM7 := Lib.hid ((BM6.out.below hb7 BM6.out.lt).alloc (.cells #[.bool leaf, .slice RA rn rc] 24))
        have E7 := Lib.hid ((E6.out.below hb7).below a7)
        have ER7 := Lib.hid (ER.below a7)
        have BR := Lib.hid (Blk.new w7 24 #[.bool leaf, .slice RA rn rc])
        clear hb7 a7 KR RS ER
        unfold nodeV
        go_wp2_with fail
        generalize hwx : (w7.alloc (.cells #[.bool leaf, .slice RA rn rc] 24)) = wy at *
        clear hwx
        have HK := Lib.hid (show ∀ W', Below wy.heap.size wy W' → (W'.cell? ⟨w7.heap.size, 0, none⟩ = some (.bool leaf) ∧ W'.cell? ⟨w7.heap.size, 1, none⟩ = some (.slice RA rn rc) ∧ W'.cell? ⟨w1.heap.size, 0, none⟩ = some (.bool leaf) ∧ W'.cell? ⟨w1.heap.size, 1, none⟩ = some (.slice GA rn gc)) from fun W' ho => ⟨(BR.out.below ho BR.out.lt).cell_some (i := 0) rfl, (BR.out.below ho BR.out.lt).cell_some (i := 1) rfl, (BM7.out.below ho BM7.out.lt).cell_some (i := 0) rfl, (BM7.out.below ho BM7.out.lt).cell_some (i := 1) rfl⟩)
        have OD := Lib.hid ((Below.refl wy.heap.size wy).drew)
        refine wp_region_held_drew (S := fun W' => W'.cell? ⟨w7.heap.size, 0, none⟩ = some (.bool leaf) ∧ W'.cell? ⟨w7.heap.size, 1, none⟩ = some (.slice RA rn rc) ∧ W'.cell? ⟨w1.heap.size, 0, none⟩ = some (.bool leaf) ∧ W'.cell? ⟨w1.heap.size, 1, none⟩ = some (.slice GA rn gc)) (by kernel_rfl) (HK.out _ OD.out) (fun hHeld => ?_)
        refine wpAnyH_ready (rs := [0]) (by kernel_rfl) (by simp) ?_
        refine AllReadyH.cons (o := ⟨some 52, _, _, _, _, _⟩) rfl (fun K hK => ?_) AllReadyH.nil
        go_simp
        go_at_call 9
        refine (awake18_any _).mono ?_
        rintro e w8 ⟨rfl, hb8⟩
        have P6 := Lib.hid (bstep OD.out hb8)
        go_simp
        refine hK.out _ _ (HK.out _ P6.out) (fun hHeld => ?_)
        try simp only [Act.put, List.setIfInBounds_toArray, List.set_cons_zero, List.set_cons_succ]
        refine wpAnyH_take (i := 1) (oi := ⟨some 53, _, _, _, _, _⟩) (v := ?_) rfl (by kernel_rfl) (by kernel_rfl) (by kernel_rfl) (fun _ _ _ h => h) (Or.inl ⟨by kernel_rfl, ?_⟩) (by assumption) ?_
        rotate_left
        · (intro w hSw; (try dsimp only at hSw); go_simp; (try (with_reducible rfl)))
        try simp only [Act.put, List.setIfInBounds_toArray, List.set_cons_zero, List.set_cons_succ]
        refine wpAnyH_take (i := 2) (oi := ⟨some 54, _, _, _, _, _⟩) (v := ?_) rfl (by kernel_rfl) (by kernel_rfl) (by kernel_rfl) (fun _ _ _ h => h) (Or.inl ⟨by kernel_rfl, ?_⟩) (by assumption) ?_
        rotate_left
        · (intro w hSw; (try dsimp only at hSw); go_simp; (try (with_reducible rfl)))
        try simp only [Act.put, List.setIfInBounds_toArray, List.set_cons_zero, List.set_cons_succ]
        refine wpAnyH_take (i := 3) (oi := ⟨some 55, _, _, _, _, _⟩) (v := ?_) rfl (by kernel_rfl) (by kernel_rfl) (by kernel_rfl) (fun _ _ _ h => h) (Or.inl ⟨by kernel_rfl, ?_⟩) (by assumption) ?_
        rotate_left
        · (intro w hSw; (try dsimp only at hSw); go_simp; (try (with_reducible rfl)))
        try simp only [Act.put, List.setIfInBounds_toArray, List.set_cons_zero, List.set_cons_succ]
        refine wpAnyH_take (i := 4) (oi := ⟨some 56, _, _, _, _, _⟩) (v := ?_) rfl (by kernel_rfl) (by kernel_rfl) (by kernel_rfl) (fun _ _ _ h => h) (Or.inl ⟨by kernel_rfl, ?_⟩) (by assumption) ?_
        rotate_left
        · (intro w hSw; (try dsimp only at hSw); go_simp; (try (with_reducible rfl)))
        try simp only [Act.put, List.setIfInBounds_toArray, List.set_cons_zero, List.set_cons_succ]
        refine wpAnyH_take (i := 5) (oi := ⟨some 57, _, _, _, _, _⟩) (v := ?_) rfl (by kernel_rfl) (by kernel_rfl) (by kernel_rfl) (fun _ _ _ h => h) (Or.inl ⟨by kernel_rfl, ?_⟩) (by assumption) ?_
        rotate_left
        · (intro w hSw; (try dsimp only at hSw); go_simp; (try (with_reducible rfl)))
        try simp only [Act.put, List.setIfInBounds_toArray, List.set_cons_zero, List.set_cons_succ]
        refine wpAnyH_take (i := 6) (oi := ⟨some 58, _, _, _, _, _⟩) (v := ?_) rfl (by kernel_rfl) (by kernel_rfl) (by kernel_rfl) (fun _ _ _ h => h) (Or.inl ⟨by kernel_rfl, ?_⟩) (by assumption) ?_
        rotate_left
        · (intro w hSw; (try dsimp only at hSw); go_simp; (try (with_reducible rfl)))
        try simp only [Act.put, List.setIfInBounds_toArray, List.set_cons_zero, List.set_cons_succ]
        refine wpAnyH_take (i := 8) (oi := ⟨some 60, _, _, _, _, _⟩) (v := ?_) rfl (by kernel_rfl) (by kernel_rfl) (by kernel_rfl) (fun _ _ _ h => h) (Or.inl ⟨by kernel_rfl, ?_⟩) (by assumption) ?_
        rotate_left
        · (intro w hSw; (try dsimp only at hSw); go_simp; (try (with_reducible rfl)))
        try simp only [Act.put, List.setIfInBounds_toArray, List.set_cons_zero, List.set_cons_succ]
        refine wpAnyH_ready (rs := [7]) (by kernel_rfl) (by simp) ?_
        refine AllReadyH.cons (o := ⟨some 59, _, _, _, _, _⟩) rfl (fun K hK => ?_) AllReadyH.nil
        go_simp
        go_at_call 20
        have KO := of18_any (w := w8) leaf GA rn gc l (E7.out.below P6.out) (by omega)
        unfold nodeV at KO
        refine KO.mono ?_
        rintro e w9 ⟨⟨OA, oc, rfl, OS, -⟩, hb9⟩
        have P7 := Lib.hid (bstep P6.out hb9)
        have EO := Lib.hid (Slc.ents OS).2
        clear OS
        go_simp
        refine hK.out _ _ (HK.out _ P7.out) (fun hHeld => ?_)
        try simp only [Act.put, List.setIfInBounds_toArray, List.set_cons_zero, List.set_cons_succ]
        refine wpAnyH_ready (rs := [9]) (by kernel_rfl) (by simp) ?_
        refine AllReadyH.cons (o := ⟨some 61, _, _, _, _, _⟩) rfl (fun K hK => ?_) AllReadyH.nil
        go_simp
        go_at_call 19
        have KS := rsame18_any (w := w9) leaf leaf OA RA rn oc rn rc l l EO.out (ER7.out.below P7.out) (by omega) (by omega) true (by simp)
        unfold nodeV at KS
        refine KS.mono ?_
        rintro e w10 ⟨rfl, hb10⟩
        have P8 := Lib.hid (bstep P7.out hb10)
        go_simp
        refine hK.out _ _ (HK.out _ P8.out) (fun hHeld => ?_)
        try simp only [Act.put, List.setIfInBounds_toArray, List.set_cons_zero, List.set_cons_succ]
        refine wpAnyH_take (i := 10) (oi := ⟨some 62, _, _, _, _, _⟩) (v := ?_) rfl (by kernel_rfl) (by kernel_rfl) (by kernel_rfl) (fun _ _ _ h => h) (Or.inl ⟨by kernel_rfl, ?_⟩) (by assumption) ?_
        rotate_left
        · (intro w hSw; (try dsimp only at hSw); go_simp; (try (with_reducible rfl)))
        try simp only [Act.put, List.setIfInBounds_toArray, List.set_cons_zero, List.set_cons_succ]
        refine wpAnyH_take (i := 11) (oi := ⟨some 2, _, _, _, _, _⟩) (v := ?_) rfl (by kernel_rfl) (by kernel_rfl) (by kernel_rfl) (fun _ _ _ h => h) (Or.inl ⟨by kernel_rfl, ?_⟩) (by assumption) ?_
        rotate_left
        · (intro w hSw; (try dsimp only at hSw); go_simp; (try (with_reducible rfl)))
        try simp only [Act.put, List.setIfInBounds_toArray, List.set_cons_zero, List.set_cons_succ]
        refine wpAnyH_done (by kernel_rfl) ?_ _
        have PP := Lib.hid (bstep O7.out P8.out)
        go_wp2_with fail
        go_ret
        exact ⟨by first | rfl | simp, PP.out⟩
theorem walk (s : ByteArray) (hs : s.size ≤ maxLen) (w : World) :
    Calls Try.prog 4 #[.string s] w fun e w' => e = .returned (.bool true) ∧ Below w.heap.size w w' := by
  by_cases h : s.size ≤ 600
  · exact walk_in s h w
  · exact walk_idle s (by omega) w

set_option maxRecDepth 100000 in
theorem contract (H : Type) (enc : TypeId × Value → H) (W : World) (base : Nat) (args : Array Value) (ds gs : List (DataW H)) (before : List MemPlace)
    (hval0 : ∀ (j : Nat) t v, Try.f4.params[j]? = some t → args[j]? = some v → Value.okWide Try.prog W .any base t v)
    (hW : DataW.Whole enc Try.prog Try.f4.params.toList Rows.nodeGetsSpec.vars false W args.toList ds gs before) :
    Calls Try.prog 4 args W fun e W' => ∃ v, e = .returned v ∧ Rows.nodeGetsSpec.post enc Try.prog Try.f4 false true false false W args v W' := by
  have hval := hval0
  have hW' := hW
  obtain ⟨p, q, hA0, hV, rfl, hfz, hnd⟩ := hW
  have hA : DataW.TrodAll enc Try.prog W 0 (fun _ => true) true Try.f4.params.toList args.toList ds p := hA0
  have hlt : ∀ x ∈ p, x.block < W.heap.size := fun x hx => by simpa using hW'.lt x (List.mem_append_left _ hx)
  rw [Try.params4] at hA hval
  obtain ⟨v0, vs0, d0, ds0, p0, q0, hargs, rfl, rfl, h0, r0⟩ := trodAll_cons hA
  obtain ⟨rfl, rfl, rfl⟩ := trodAll_nil r0
  obtain rfl : args = #[v0] := by cases args; simp_all
  obtain ⟨rfl, rfl⟩ := trodVars_none hV
  obtain ⟨s0, rfl, rfl, rfl, hs0⟩ := open_string Try.underlying9 (hval 0 9 v0 rfl rfl) h0
  refine (walk s0 hs0 W).mono fun e W1 ⟨he, hb⟩ => ?_
  subst he
  exact ⟨_, rfl, law_post laidOut hW' rfl (by kernel_rfl) (by rfl) Try.underlying4 rfl hb⟩

set_option maxRecDepth 100000 in
theorem lifted (os : Os) (started : os.Started) (H : Type) (enc : TypeId × Value → H) :
    ReturnsInHanded {} Try.checked os 4 .any (Rows.nodeGetsSpec.pre6 enc Try.prog Try.f4 Rows.nodeGetsRow.domain false) (Rows.nodeGetsSpec.post enc Try.prog Try.f4 false true false false) := by
  refine returnsInHanded_of_change (C := Try.checked) own started (by kernel_rfl) Try.func4
    (ChangeSpec.witness6 (enc := enc) (C := Try.checked) false ⟨#[], #[.string .empty], []⟩ 8 (by kernel_rfl) (by kernel_rfl) (by kernel_rfl) (by kernel_rfl)) ?_
  intro W base args ds gs before hval0 hW hcnd _
  exact contract H enc W base args ds gs before hval0 hW

theorem proved : Rows.NodeGetsSaid :=
  OpenClaim.holds_of_wide 4 Try.f4 rfl rfl rfl rfl rfl rfl rfl ⟨rfl, rfl, rfl, rfl, rfl⟩ rfl rfl rfl rfl rfl (by kernel_rfl) Try.func4 (by kernel_rfl)
    (of_decide_eq_true (by kernel_rfl)) (by unfold Func.isWrapper; first | (rw [if_pos (by decide +kernel)]; kernel_rfl) | (rw [if_neg (by decide +kernel)]; exact ⟨rfl, rfl⟩))
    (fun os started H enc _ => lifted os started H enc)
#print axioms proved
end Go.Proofs.Yticehnnbjbliaab.nodeGets
