/- nodes: the document's Same. -/
import Derived.Test.YticehnnbjbliaabNd20
namespace Go.Proofs.Yticehnnbjbliaab.Nd
open Go.RowKit Sl
attribute [local go_sem ↓] Go.wp_at_zero Go.wp_at_succ
set_option maxRecDepth 100000 in
set_option maxHeartbeats 4000000 in
theorem rsame18_any {w : World} (leaf leaf' : Bool) (A A' : Option Addr) (n c n' c' : Nat) (l l' : List E) (h : Ents w A n l) (h' : Ents w A' n' l') (hn : n ≤ 1000000) (hn' : n' ≤ 1000000) (b : Bool) (hb : b = true ↔ leaf = leaf' ∧ l = l') :
    Calls Try.prog 19 #[nodeV leaf A n c, nodeV leaf' A' n' c'] w fun r w' => r = .returned (.bool b) ∧ Below w.heap.size w w' := by
  have O0 := belowAlloc (belowAlloc (Below.refl w.heap.size w) (.cells #[.bool leaf, .slice A n c] 24)) (.cells #[.bool leaf', .slice A' n' c'] 24)
  have B0 := (Blk.new w 24 #[.bool leaf, .slice A n c]).alloc (.cells #[.bool leaf', .slice A' n' c'] 24)
  have B1 := Blk.new (w.alloc (.cells #[.bool leaf, .slice A n c] 24)) 24 #[.bool leaf', .slice A' n' c']
  rw [asz] at B1
  have hl := Lib.hid h.1
  have hl' := Lib.hid h'.1
  have H0 := Lib.hid (h.below O0)
  have H1 := Lib.hid (h'.below O0)
  have O0 := Lib.hid O0
  have HB := Lib.hid hb
  have B0 := Lib.hid B0
  have B1 := Lib.hid B1
  clear h h' hb
  unfold nodeV
  by_cases hll : leaf = leaf'
  · subst hll
    by_cases hnn : n = n'
    · subst hnn
      go_enter Try.func19, Try.ntmps19
      go_wp2_with fail
      generalize hW : ((w.alloc (.cells #[.bool leaf, .slice A n c] 24)).alloc (.cells #[.bool leaf, .slice A' n c'] 24)) = W at *
      clear hW
      go_loopw [5] (fun iv wr => ∃ i : Nat, i ≤ n ∧ iv = .int .i64 i ∧ Hid (∀ j : Nat, j < i → l[j]? = l'[j]?) ∧ Below W.heap.size W wr) (fun iv _ => n - (intOf iv).toNat)
      case atStart => exact ⟨0, Nat.zero_le _, rfl, Lib.hid (fun j h => absurd h (Nat.not_lt_zero _)), Below.refl _ _⟩
      case round =>
        obtain ⟨i, hi, rfl, EQ, O⟩ := hrel
        have c1 : wr.cell? ⟨w.heap.size, 1, none⟩ = some (.slice A n c) := (B0.out.below O B0.out.lt).cell_some (i := 1) rfl
        have d1 : wr.cell? ⟨w.heap.size + 1, 1, none⟩ = some (.slice A' n c') := (B1.out.below O B1.out.lt).cell_some (i := 1) rfl
        by_cases h : i < n
        · obtain ⟨ad, e, rfl, he, AT⟩ := (H0.out.below O).at i h
          obtain ⟨ad', e', rfl, he', AT'⟩ := (H1.out.below O).at i h
          have a0 := AT.c0
          have a1 := AT.c1
          have a2 := AT.c2
          have b0 := AT'.c0
          have b1 := AT'.c1
          have b2 := AT'.c2
          have OO := Lib.hid O
          have HE := Lib.hid (And.intro he he')
          have hii : (i : Int) < (n : Int) := by omega
          clear AT AT' O he he'
          obtain ⟨k, v, f⟩ := e
          obtain ⟨k', v', f'⟩ := e'
          dsimp only at *
          rcases e_ne k v f k' v' f' with ⟨rfl, rfl, rfl⟩ | hd | ⟨rfl, hd⟩ | ⟨rfl, rfl, hd⟩
          · have HQ := Lib.hid (show ∀ j : Nat, j < i + 1 → l[j]? = l'[j]? from fun j hj => by
              rcases Nat.lt_succ_iff_lt_or_eq.1 hj with h1 | rfl
              · exact EQ.out j h1
              · rw [HE.out.1, HE.out.2])
            go_wp2_with fail
            go_quiet (fail)
            go_wp2_with fail
            go_roundw
            case rel => exact ⟨i + 1, by omega, by go_num, HQ, Below_drewN OO.out _⟩
            case measure => simp [intOf]; omega
          · have HD := Lib.hid (show l ≠ l' from fun hx => by
              have h1 := HE.out.1
              rw [hx, HE.out.2] at h1
              simp only [Option.some.injEq, E.mk.injEq] at h1
              first | exact hd h1.1.symm | exact hd h1.2.1.symm | exact hd h1.2.2.symm)
            have q1 := toLb hd
            have q2 : ¬ k.toList = k'.toList := by simpa using q1
            go_wp2_with fail
            go_quiet (fail)
            go_wp2_with fail
            go_ret
            exact ⟨by
              cases b
              · rfl
              · exact absurd (HB.out.1 rfl).2 HD.out, bstep O0.out (Below_drewN OO.out _)⟩
          · have HD := Lib.hid (show l ≠ l' from fun hx => by
              have h1 := HE.out.1
              rw [hx, HE.out.2] at h1
              simp only [Option.some.injEq, E.mk.injEq] at h1
              first | exact hd h1.1.symm | exact hd h1.2.1.symm | exact hd h1.2.2.symm)
            have q1 := toLb hd
            have q2 : ¬ v.toList = v'.toList := by simpa using q1
            go_wp2_with fail
            go_quiet (fail)
            go_wp2_with fail
            go_ret
            exact ⟨by
              cases b
              · rfl
              · exact absurd (HB.out.1 rfl).2 HD.out, bstep O0.out (Below_drewN OO.out _)⟩
          · have HD := Lib.hid (show l ≠ l' from fun hx => by
              have h1 := HE.out.1
              rw [hx, HE.out.2] at h1
              simp only [Option.some.injEq, E.mk.injEq] at h1
              first | exact hd h1.1.symm | exact hd h1.2.1.symm | exact hd h1.2.2.symm)
            have q1 : (f == f') = false := by simpa using hd
            go_wp2_with fail
            go_quiet (fail)
            go_wp2_with fail
            go_ret
            exact ⟨by
              cases b
              · rfl
              · exact absurd (HB.out.1 rfl).2 HD.out, bstep O0.out (Below_drewN OO.out _)⟩
        · obtain rfl : i = n := by omega
          have OO := Lib.hid O
          clear O
          go_wp2_with fail
          go_ret
          refine ⟨?_, bstep O0.out OO.out⟩
          have : l = l' := by
            apply List.ext_getElem?
            intro j
            by_cases hj : j < i
            · exact EQ.out j hj
            · rw [List.getElem?_eq_none (by have := hl.out; omega), List.getElem?_eq_none (by have := hl'.out; omega)]
          rw [HB.out.2 (by first | exact ⟨rfl, this⟩ | exact ⟨trivial, this⟩)]; rfl
    · have hd : (n : Int) ≠ (n' : Int) := by omega
      have hd2 : ((n : Int) == (n' : Int)) = false := by simpa using hd
      go_enter Try.func19, Try.ntmps19
      go_wp2_with fail
      go_ret
      refine ⟨?_, O0.out⟩
      cases b
      · rfl
      · exfalso
        have := (HB.out.1 rfl).2
        have h1 := hl.out
        rw [this, hl'.out] at h1
        exact hnn h1.symm
  · have hl2 : (leaf == leaf') = false := by simpa using hll
    go_enter Try.func19, Try.ntmps19
    go_wp2_with fail
    go_ret
    refine ⟨?_, O0.out⟩
    cases b
    · rfl
    · exact absurd (HB.out.1 rfl).1 hll
end Go.Proofs.Yticehnnbjbliaab.Nd
