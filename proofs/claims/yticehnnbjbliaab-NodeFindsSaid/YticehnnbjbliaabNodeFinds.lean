/-
  NodeFinds: for every input the law returns true, and each argument reads behind the call as before. No condition of its own.
-/
import Derived.Test.YticehnnbjbliaabNd20
namespace Go.Proofs.Yticehnnbjbliaab.nodeFinds
open Go.ChangeShapes Go.WideShapes Go.ChangeAt Go.RowKit
open Go.ChangeMaps (open_string shut_string)
set_option linter.unusedVariables false

open Sl Nd
attribute [local go_sem ↓] Go.wp_at_zero Go.wp_at_succ
theorem place_uniq {l : List E} {leaf : Bool} {key : ByteArray} {p q : Nat} (hm : mayP l leaf) (hp : PlaceAt l key p) (hq : PlaceAt l key q) : p = q := by
  have key1 : ∀ {p q : Nat}, PlaceAt l key p → PlaceAt l key q → ¬ p < q := by
    intro p q hp hq hlt
    have hl := hq.1
    have hx := List.getElem?_eq_getElem (show p < l.length by omega)
    have a := (place_less hm hq p _ hx).2 hlt
    have b := hp.2.2 _ hx
    omega
  have h1 := key1 hp hq
  have h2 := key1 hq hp
  omega
/-- one entry against the key, as the law asks it -/
theorem less_raw (e : E) (key : ByteArray) : Op.bytesLess e.key.toList key.toList = decide (cmpE e key < 0) := by
  rw [bytes_toList, bytes_toList, bl_eq]; rfl
theorem eq_raw (e : E) (key : ByteArray) : (e.key.toList == key.toList) = decide (cmpE e key = 0) := by
  rw [bytes_toList, bytes_toList]
  have := cb_eq e.key.data.toList key.data.toList
  unfold cmpE
  by_cases h : e.key.data.toList = key.data.toList
  · rw [decide_eq_true (this.2 h), h]; simp
  · rw [decide_eq_false (fun hx => h (this.1 hx))]; simpa using h
set_option maxRecDepth 100000 in
set_option maxHeartbeats 4000000 in
theorem walk_idle {w : World} (leaf : Bool) (A : Option Addr) (n c : Nat) (l : List E) (key : ByteArray) (h : Ents w A n l) (hn : n ≤ 9223372036854775807) (hno : ¬ (lightP l ∧ mayP l leaf)) :
    Calls Try.prog 6 #[nodeV leaf A n c, .string key] w fun e w' => e = .returned (.bool true) ∧ Below w.heap.size w w' := by
  have O0 := belowAlloc (Below.refl w.heap.size w) (.cells #[.bool leaf, .slice A n c] 24)
  have B0 := Lib.hid (Blk.new w 24 #[.bool leaf, .slice A n c])
  have H0 := Lib.hid (h.below O0)
  have KL := Lib.hid (light_any (w := w.alloc (.cells #[.bool leaf, .slice A n c] 24)) leaf A n c l H0.out hn)
  have O0 := Lib.hid O0
  have HNO := Lib.hid hno
  clear h hno
  unfold nodeV at *
  go_enter Try.func6, Try.ntmps6
  go_wp2_with fail
  refine KL.out.mono ?_
  rintro e w1 ⟨⟨b, rfl, hb⟩, hb1⟩
  have O1 := Lib.hid (bstep O0.out hb1)
  have B1 := Lib.hid (B0.out.below hb1 B0.out.lt)
  have H1 := Lib.hid (H0.out.below hb1)
  have c0 : w1.cell? ⟨w.heap.size, 0, none⟩ = some (.bool leaf) := B1.out.cell_some (i := 0) rfl
  have c1 : w1.cell? ⟨w.heap.size, 1, none⟩ = some (.slice A n c) := B1.out.cell_some (i := 1) rfl
  have HB := Lib.hid hb
  clear hb hb1
  cases b
  · go_wp2_with fail
    refine (awake18_any _).mono ?_
    rintro e w3 ⟨rfl, hb3⟩
    have O3 := Lib.hid (bstep O1.out hb3)
    clear hb3
    go_wp2_with fail
    go_ret
    exact ⟨rfl, O3.out⟩
  · obtain ⟨q, hq⟩ := bool_of (mayP l leaf)
    obtain rfl : q = false := by
      cases q
      · rfl
      · exact absurd ⟨HB.out.1 rfl, hq.1 rfl⟩ HNO.out
    have KR := Lib.hid (right_ref (w := w1) leaf A n c l H1.out hn false hq)
    unfold nodeV at KR
    clear hq
    go_wp2_with fail
    refine KR.out.mono ?_
    rintro e w2 ⟨rfl, hb2⟩
    have O2 := Lib.hid (bstep O1.out hb2)
    clear hb2
    go_wp2_with fail
    refine (awake18_any _).mono ?_
    rintro e w3 ⟨rfl, hb3⟩
    have O3 := Lib.hid (bstep O2.out hb3)
    clear hb3
    go_wp2_with fail
    go_ret
    exact ⟨rfl, O3.out⟩
set_option maxRecDepth 100000 in
set_option maxHeartbeats 4000000 in
theorem walk_full {w : World} (leaf : Bool) (A : Option Addr) (n c : Nat) (l : List E) (key : ByteArray) (h : Ents w A n l) (hn : n ≤ 60) (hl : lightP l) (hm : mayP l leaf) :
    Calls Try.prog 6 #[nodeV leaf A n c, .string key] w fun e w' => e = .returned (.bool true) ∧ Below w.heap.size w w' := by
  have O0 := belowAlloc (Below.refl w.heap.size w) (.cells #[.bool leaf, .slice A n c] 24)
  have B0 := Lib.hid (Blk.new w 24 #[.bool leaf, .slice A n c])
  have H0 := Lib.hid (h.below O0)
  have KL := Lib.hid (light_any (w := w.alloc (.cells #[.bool leaf, .slice A n c] 24)) leaf A n c l H0.out (by omega))
  have O0 := Lib.hid O0
  have HLL := Lib.hid hl
  have HMM := Lib.hid hm
  have HLEN := Lib.hid h.1
  clear h hl hm
  unfold nodeV at *
  go_enter Try.func6, Try.ntmps6
  go_wp2_with fail
  refine KL.out.mono ?_
  rintro e w1 ⟨⟨b, rfl, hb⟩, hb1⟩
  obtain rfl := hb.2 HLL.out
  have O1 := Lib.hid (bstep O0.out hb1)
  have B1 := Lib.hid (B0.out.below hb1 B0.out.lt)
  have H1 := Lib.hid (H0.out.below hb1)
  have c0 : w1.cell? ⟨w.heap.size, 0, none⟩ = some (.bool leaf) := B1.out.cell_some (i := 0) rfl
  have c1 : w1.cell? ⟨w.heap.size, 1, none⟩ = some (.slice A n c) := B1.out.cell_some (i := 1) rfl
  have KR := Lib.hid (right_ref (w := w1) leaf A n c l H1.out (by omega) true (by simp [HMM.out]))
  unfold nodeV at KR
  clear hb hb1 KL
  go_wp2_with fail
  refine KR.out.mono ?_
  rintro e w2 ⟨rfl, hb2⟩
  have O2 := Lib.hid (bstep O1.out hb2)
  have B2 := Lib.hid (B1.out.below hb2 B1.out.lt)
  have H2 := Lib.hid (H1.out.below hb2)
  clear c0 c1
  have c0 : w2.cell? ⟨w.heap.size, 0, none⟩ = some (.bool leaf) := B2.out.cell_some (i := 0) rfl
  have c1 : w2.cell? ⟨w.heap.size, 1, none⟩ = some (.slice A n c) := B2.out.cell_some (i := 1) rfl
  have KT := Lib.hid (to_any (w := w2) leaf A n c l H2.out (by omega))
  unfold nodeV at KT
  clear hb2 KR
  go_wp2_with fail
  refine KT.out.mono ?_
  rintro e w3 ⟨⟨TA, tc, rfl, TS, -⟩, hb3⟩
  have O3 := Lib.hid (bstep O2.out hb3)
  have B3 := Lib.hid (B2.out.below hb3 B2.out.lt)
  have H3 := Lib.hid (H2.out.below hb3)
  have KF := Lib.hid (find_any (w := w3) leaf TA n tc l key (Slc.ents TS).2 (by omega))
  unfold nodeV at KF
  clear hb3 KT TS c0 c1
  go_wp2_with fail
  refine KF.out.mono ?_
  rintro e w4 ⟨⟨p, b, rfl, hp, hh⟩, hb4⟩
  have O4 := Lib.hid (bstep O3.out hb4)
  have B4 := Lib.hid (B3.out.below hb4 B3.out.lt)
  have H4 := Lib.hid (H3.out.below hb4)
  have c0 : w4.cell? ⟨w.heap.size, 0, none⟩ = some (.bool leaf) := B4.out.cell_some (i := 0) rfl
  have c1 : w4.cell? ⟨w.heap.size, 1, none⟩ = some (.slice A n c) := B4.out.cell_some (i := 1) rfl
  have hpn : p ≤ n := by have := hp.1; rw [HLEN.out] at this; exact this
  have HP := Lib.hid hp
  have HH := Lib.hid hh
  clear hb4 KF hp hh
  go_wp2_with fail
  go_loopw [7] (fun jv wr => ∃ j : Nat, j ≤ p ∧ jv = .int .i64 j ∧ wr = w4) (fun jv _ => p - (intOf jv).toNat)
  case atStart => exact ⟨0, Nat.zero_le _, rfl, rfl⟩
  case round =>
    obtain ⟨j, hj, rfl, rfl⟩ := hrel
    by_cases hjp : j < p
    · obtain ⟨ad, e, rfl, he, AT⟩ := H4.out.at j (by omega)
      have a0 := AT.c0
      have hr := less_raw e key
      rw [decide_eq_true ((place_less HMM.out HP.out j e he).2 hjp)] at hr
      have hjn : (j : Int) < (n : Int) := by omega
      have hjn' : j < n := by omega
      clear AT he
      go_wp2_with fail
      go_roundw
      case rel => exact ⟨j + 1, by omega, by go_num, trivial⟩
      case measure => simp [intOf]; omega
    · obtain rfl : j = p := by omega
      -- behind the first loop
      obtain ⟨q, hq⟩ : ∃ q, (HasAt l key j ∧ q = j + 1) ∨ (¬ HasAt l key j ∧ q = j) := by
        by_cases hx : HasAt l key j
        · exact ⟨_, .inl ⟨hx, rfl⟩⟩
        · exact ⟨_, .inr ⟨hx, rfl⟩⟩
      have HQ := Lib.hid hq
      have hqn : q ≤ n := by
        rcases hq with ⟨⟨e, he, -⟩, rfl⟩ | ⟨-, rfl⟩
        · have := (List.getElem?_eq_some_iff.1 he).1; rw [HLEN.out] at this; omega
        · exact hpn
      have HBV := Lib.hid (show (b = true → HasAt l key j) ∧ (HasAt l key j → b = true) from ⟨HH.out.1, HH.out.2⟩)
      have HRest := Lib.hid (show True from trivial)
      clear hq
      by_cases hjn : j < n
      · obtain ⟨ad, e, rfl, he, AT⟩ := H4.out.at j hjn
        have a0 := AT.c0
        have hr := less_raw e key
        rw [decide_eq_false (fun hx => hjp ((place_less HMM.out HP.out j e he).1 hx))] at hr
        have hbv : (e.key.toList == key.toList) = b := by
          rw [eq_raw]
          cases b
          · rw [decide_eq_false]
            intro h0
            have := HBV.out.2 ⟨e, he, h0⟩
            cases this
          · obtain ⟨e', he', h0⟩ := HBV.out.1 rfl
            rw [he] at he'
            injection he' with he'
            subst he'
            exact decide_eq_true h0
        have hjn2 : (j : Int) < (n : Int) := by omega
        clear AT he hjp
        go_wp2_with fail
        go_loopw [9, 10] (fun bv iv wr' => ∃ i : Nat, i ≤ n ∧ iv = .int .i64 i ∧ bv = .int .i64 ((min i q - 1 : Nat) : Int) ∧ wr' = wr) (fun _ iv _ => n - (intOf iv).toNat)
        case atStart => exact ⟨0, Nat.zero_le _, rfl, by simp, rfl⟩
        case round =>
          obtain ⟨i, hi, rfl, rfl, rfl⟩ := hrel
          by_cases hin : i < n
          · obtain ⟨ad', e', hae, he', AT'⟩ := H4.out.at i hin
            obtain rfl := Option.some.inj hae
            have b0 := AT'.c0
            have hle := place_le HMM.out HP.out HQ.out i e' he'
            have hin2 : (i : Int) < (n : Int) := by omega
            have r1 := less_raw e' key
            have r2 := eq_raw e' key
            clear AT' he'
            rcases (show cmpE e' key < 0 ∨ cmpE e' key = 0 ∨ 0 < cmpE e' key from by omega) with hc | hc | hc
            · rw [decide_eq_true hc] at r1
              rw [decide_eq_false (by omega)] at r2
              have hiq := hle.1 (by omega)
              have hN := Lib.hid (show ((min (i + 1) q - 1 : Nat) : Int) = (i : Int) from by omega)
              clear hle hc
              go_wp2_with fail
              go_roundw
              case rel => exact ⟨i + 1, by omega, by go_num, by rw [hN.out], trivial⟩
              case measure => simp [intOf]; omega
            · rw [decide_eq_false (by omega)] at r1
              rw [decide_eq_true hc] at r2
              have hiq := hle.1 (by omega)
              have hN := Lib.hid (show ((min (i + 1) q - 1 : Nat) : Int) = (i : Int) from by omega)
              clear hle hc
              go_wp2_with fail
              go_roundw
              case rel => exact ⟨i + 1, by omega, by go_num, by rw [hN.out], trivial⟩
              case measure => simp [intOf]; omega
            · rw [decide_eq_false (by omega)] at r1
              rw [decide_eq_false (by omega)] at r2
              have hiq : ¬ i < q := fun hx => by have := hle.2 hx; omega
              have hN := Lib.hid (show (min (i + 1) q - 1 : Nat) = (min i q - 1 : Nat) from by omega)
              clear hle hc
              go_wp2_with fail
              go_roundw
              case rel => exact ⟨i + 1, by omega, by go_num, by rw [hN.out], trivial⟩
              case measure => simp [intOf]; omega
          · obtain rfl : i = n := by omega
            obtain ⟨m0, hm0⟩ : ∃ m0 : Nat, (min i q - 1 : Nat) = m0 := ⟨_, rfl⟩
            have HM0 := Lib.hid (show m0 = q - 1 from by omega)
            rw [hm0]
            clear hm0
            go_wp2_with fail
            refine (awake18_any _).mono ?_
            rintro e5 w5 ⟨rfl, hb5⟩
            have O5 := Lib.hid (bstep O4.out hb5)
            have B5 := Lib.hid (B4.out.below hb5 B4.out.lt)
            have H5 := Lib.hid (H4.out.below hb5)
            have d0 : w5.cell? ⟨w.heap.size, 0, none⟩ = some (.bool leaf) := B5.out.cell_some (i := 0) rfl
            have d1 : w5.cell? ⟨w.heap.size, 1, none⟩ = some (.slice (some ad) i c) := B5.out.cell_some (i := 1) rfl
            have KT := Lib.hid (to_any (w := w5) leaf (some ad) i c l H5.out (by omega))
            unfold nodeV at KT
            clear hb5
            go_wp2_with fail
            refine KT.out.mono ?_
            rintro e6 w6 ⟨⟨UA, uc, rfl, US, -⟩, hb6⟩
            have O6 := Lib.hid (bstep O5.out hb6)
            have KB := Lib.hid (below_any (w := w6) leaf UA i uc l key (Slc.ents US).2 (by omega))
            unfold nodeV at KB
            clear hb6 US KT d0 d1
            go_wp2_with fail
            refine KB.out.mono ?_
            rintro e7 w7 ⟨⟨m, rfl, k', hk', hm'⟩, hb7⟩
            have O7 := Lib.hid (bstep O6.out hb7)
            obtain rfl := place_uniq HMM.out HP.out hk'
            obtain rfl : m = m0 := by
              rw [HM0.out]
              rcases hm' with ⟨h1, rfl⟩ | ⟨h1, rfl⟩
              · rcases HQ.out with ⟨_, rfl⟩ | ⟨h2, _⟩
                · omega
                · exact absurd h1 h2
              · rcases HQ.out with ⟨h2, _⟩ | ⟨_, rfl⟩
                · exact absurd h2 h1
                · omega
            clear hb7 hm' hk' KB
            go_wp2_with fail
            go_ret
            exact ⟨by first | rfl | simp, O7.out⟩
      · obtain rfl : b = false := by
          cases b
          · rfl
          · obtain ⟨e, he, _⟩ := HBV.out.1 rfl
            have := (List.getElem?_eq_some_iff.1 he).1
            rw [HLEN.out] at this
            exact absurd this hjn
        have hjn2 : ¬ (j : Int) < (n : Int) := by omega
        clear hjp
        go_wp2_with fail
        go_loopw [9, 10] (fun bv iv wr' => ∃ i : Nat, i ≤ n ∧ iv = .int .i64 i ∧ bv = .int .i64 ((min i q - 1 : Nat) : Int) ∧ wr' = wr) (fun _ iv _ => n - (intOf iv).toNat)
        case atStart => exact ⟨0, Nat.zero_le _, rfl, by simp, rfl⟩
        case round =>
          obtain ⟨i, hi, rfl, rfl, rfl⟩ := hrel
          by_cases hin : i < n
          · obtain ⟨ad', e', hae, he', AT'⟩ := H4.out.at i hin
            subst hae
            have b0 := AT'.c0
            have hle := place_le HMM.out HP.out HQ.out i e' he'
            have hin2 : (i : Int) < (n : Int) := by omega
            have r1 := less_raw e' key
            have r2 := eq_raw e' key
            clear AT' he'
            rcases (show cmpE e' key < 0 ∨ cmpE e' key = 0 ∨ 0 < cmpE e' key from by omega) with hc | hc | hc
            · rw [decide_eq_true hc] at r1
              rw [decide_eq_false (by omega)] at r2
              have hiq := hle.1 (by omega)
              have hN := Lib.hid (show ((min (i + 1) q - 1 : Nat) : Int) = (i : Int) from by omega)
              clear hle hc
              go_wp2_with fail
              go_roundw
              case rel => exact ⟨i + 1, by omega, by go_num, by rw [hN.out], trivial⟩
              case measure => simp [intOf]; omega
            · rw [decide_eq_false (by omega)] at r1
              rw [decide_eq_true hc] at r2
              have hiq := hle.1 (by omega)
              have hN := Lib.hid (show ((min (i + 1) q - 1 : Nat) : Int) = (i : Int) from by omega)
              clear hle hc
              go_wp2_with fail
              go_roundw
              case rel => exact ⟨i + 1, by omega, by go_num, by rw [hN.out], trivial⟩
              case measure => simp [intOf]; omega
            · rw [decide_eq_false (by omega)] at r1
              rw [decide_eq_false (by omega)] at r2
              have hiq : ¬ i < q := fun hx => by have := hle.2 hx; omega
              have hN := Lib.hid (show (min (i + 1) q - 1 : Nat) = (min i q - 1 : Nat) from by omega)
              clear hle hc
              go_wp2_with fail
              go_roundw
              case rel => exact ⟨i + 1, by omega, by go_num, by rw [hN.out], trivial⟩
              case measure => simp [intOf]; omega
          · obtain rfl : i = n := by omega
            obtain ⟨m0, hm0⟩ : ∃ m0 : Nat, (min i q - 1 : Nat) = m0 := ⟨_, rfl⟩
            have HM0 := Lib.hid (show m0 = q - 1 from by omega)
            rw [hm0]
            clear hm0
            go_wp2_with fail
            refine (awake18_any _).mono ?_
            rintro e5 w5 ⟨rfl, hb5⟩
            have O5 := Lib.hid (bstep O4.out hb5)
            have B5 := Lib.hid (B4.out.below hb5 B4.out.lt)
            have H5 := Lib.hid (H4.out.below hb5)
            have d0 : w5.cell? ⟨w.heap.size, 0, none⟩ = some (.bool leaf) := B5.out.cell_some (i := 0) rfl
            have d1 : w5.cell? ⟨w.heap.size, 1, none⟩ = some (.slice A i c) := B5.out.cell_some (i := 1) rfl
            have KT := Lib.hid (to_any (w := w5) leaf A i c l H5.out (by omega))
            unfold nodeV at KT
            clear hb5
            go_wp2_with fail
            refine KT.out.mono ?_
            rintro e6 w6 ⟨⟨UA, uc, rfl, US, -⟩, hb6⟩
            have O6 := Lib.hid (bstep O5.out hb6)
            have KB := Lib.hid (below_any (w := w6) leaf UA i uc l key (Slc.ents US).2 (by omega))
            unfold nodeV at KB
            clear hb6 US KT d0 d1
            go_wp2_with fail
            refine KB.out.mono ?_
            rintro e7 w7 ⟨⟨m, rfl, k', hk', hm'⟩, hb7⟩
            have O7 := Lib.hid (bstep O6.out hb7)
            obtain rfl := place_uniq HMM.out HP.out hk'
            obtain rfl : m = m0 := by
              rw [HM0.out]
              rcases hm' with ⟨h1, rfl⟩ | ⟨h1, rfl⟩
              · rcases HQ.out with ⟨_, rfl⟩ | ⟨h2, _⟩
                · omega
                · exact absurd h1 h2
              · rcases HQ.out with ⟨h2, _⟩ | ⟨_, rfl⟩
                · exact absurd h2 h1
                · omega
            clear hb7 hm' hk' KB
            go_wp2_with fail
            go_ret
            exact ⟨by first | rfl | simp, O7.out⟩
theorem walk {H : Type} {enc : TypeId × Value → H} {w : World} {base : Nat} {v : Value} {d : DataW H} {ps : List MemPlace} (hok : Value.okWide Try.prog w .any base 24 v) (h : DataW.Trod enc Try.prog w 0 (fun _ => true) true 24 v d ps) (key : ByteArray) (hs : key.size ≤ maxLen) :
    Calls Try.prog 6 #[v, .string key] w fun e w' => e = .returned (.bool true) ∧ Below w.heap.size w w' := by
  obtain ⟨leaf, A, n, c, l, rfl, hn, hE, -⟩ := node_of hok h
  unfold maxLen at hn
  by_cases hx : lightP l ∧ mayP l leaf
  · exact walk_full leaf A n c l key hE (by have := hE.1; have := hx.1.1; omega) hx.1 hx.2
  · exact walk_idle leaf A n c l key hE (by omega) hx

set_option maxRecDepth 100000 in
theorem contract (H : Type) (enc : TypeId × Value → H) (W : World) (base : Nat) (args : Array Value) (ds gs : List (DataW H)) (before : List MemPlace)
    (hval0 : ∀ (j : Nat) t v, Try.f6.params[j]? = some t → args[j]? = some v → Value.okWide Try.prog W .any base t v)
    (hW : DataW.Whole enc Try.prog Try.f6.params.toList Rows.nodeFindsSpec.vars false W args.toList ds gs before) :
    Calls Try.prog 6 args W fun e W' => ∃ v, e = .returned v ∧ Rows.nodeFindsSpec.post enc Try.prog Try.f6 false true false false W args v W' := by
  have hval := hval0
  have hW' := hW
  obtain ⟨p, q, hA0, hV, rfl, hfz, hnd⟩ := hW
  have hA : DataW.TrodAll enc Try.prog W 0 (fun _ => true) true Try.f6.params.toList args.toList ds p := hA0
  have hlt : ∀ x ∈ p, x.block < W.heap.size := fun x hx => by simpa using hW'.lt x (List.mem_append_left _ hx)
  rw [Try.params6] at hA hval
  obtain ⟨v0, vs0, d0, ds0, p0, q0, hargs, rfl, rfl, h0, r0⟩ := trodAll_cons hA
  obtain ⟨v1, vs1, d1, ds1, p1, q1, rfl, rfl, rfl, h1, r1⟩ := trodAll_cons r0
  obtain ⟨rfl, rfl, rfl⟩ := trodAll_nil r1
  obtain rfl : args = #[v0, v1] := by cases args; simp_all
  obtain ⟨rfl, rfl⟩ := trodVars_none hV
  obtain ⟨s1, rfl, rfl, rfl, hs1⟩ := open_string Try.underlying9 (hval 1 9 v1 rfl rfl) h1
  refine (walk (hval 0 24 v0 rfl rfl) h0 s1 hs1 ).mono fun e W1 ⟨he, hb⟩ => ?_
  subst he
  exact ⟨_, rfl, law_post laidOut hW' rfl (by kernel_rfl) (by rfl) Try.underlying4 rfl hb⟩

set_option maxRecDepth 100000 in
theorem lifted (os : Os) (started : os.Started) (H : Type) (enc : TypeId × Value → H) :
    ReturnsInHanded {} Try.checked os 6 .any (Rows.nodeFindsSpec.pre6 enc Try.prog Try.f6 Rows.nodeFindsRow.domain false) (Rows.nodeFindsSpec.post enc Try.prog Try.f6 false true false false) := by
  refine returnsInHanded_of_change (C := Try.checked) own started (by kernel_rfl) Try.func6
    (ChangeSpec.witness6 (enc := enc) (C := Try.checked) false ⟨#[], #[.agg #[.bool false, .slice none 0 0], .string .empty], []⟩ 8 (by kernel_rfl) (by kernel_rfl) (by kernel_rfl) (by kernel_rfl)) ?_
  intro W base args ds gs before hval0 hW hcnd _
  exact contract H enc W base args ds gs before hval0 hW

theorem proved : Rows.NodeFindsSaid :=
  OpenClaim.holds_of_wide 6 Try.f6 rfl rfl rfl rfl rfl rfl rfl ⟨rfl, rfl, rfl, rfl, rfl⟩ rfl rfl rfl rfl rfl (by kernel_rfl) Try.func6 (by kernel_rfl)
    (of_decide_eq_true (by kernel_rfl)) (by unfold Func.isWrapper; first | (rw [if_pos (by decide +kernel)]; kernel_rfl) | (rw [if_neg (by decide +kernel)]; exact ⟨rfl, rfl⟩))
    (fun os started H enc _ => lifted os started H enc)
#print axioms proved
end Go.Proofs.Yticehnnbjbliaab.nodeFinds
