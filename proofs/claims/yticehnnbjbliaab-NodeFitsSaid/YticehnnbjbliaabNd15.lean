/- nodes: Same. -/
import Derived.Test.YticehnnbjbliaabNd9
import Derived.Laws.StructEq
namespace Go.Proofs.Yticehnnbjbliaab.Nd
open Go.RowKit Sl
attribute [local go_sem ↓] Go.wp_at_zero Go.wp_at_succ
theorem toLb {a b : ByteArray} (h : a ≠ b) : (a.toList == b.toList) = false := by
  apply beq_eq_false_iff_ne.2
  intro e
  rw [bytes_toList, bytes_toList] at e
  exact h (ByteArray.ext (Array.toList_inj.1 e))
/-- two entries differ -/
theorem e_ne (k v : ByteArray) (f : Int) (k' v' : ByteArray) (f' : Int) : (k = k' ∧ v = v' ∧ f = f') ∨ (k ≠ k') ∨ (k = k' ∧ v ≠ v') ∨ (k = k' ∧ v = v' ∧ f ≠ f') := by
  by_cases h1 : k = k'
  · by_cases h2 : v = v'
    · by_cases h3 : f = f'
      · exact .inl ⟨h1, h2, h3⟩
      · exact .inr (.inr (.inr ⟨h1, h2, h3⟩))
    · exact .inr (.inr (.inl ⟨h1, h2⟩))
  · exact .inr (.inl h1)
set_option maxRecDepth 100000 in
set_option maxHeartbeats 4000000 in
theorem equal_any {w : World} (A A' : Option Addr) (n c n' c' : Nat) (l l' : List E) (h : Ents w A n l) (h' : Ents w A' n' l') (hn : n ≤ 1000000) (hn' : n' ≤ 1000000) (b : Bool) (hb : b = true ↔ l = l') :
    Calls Try.prog 37 #[.slice A n c, .slice A' n' c'] w fun r w' => r = .returned (.bool b) ∧ Below w.heap.size w w' := by
  have hl := Lib.hid h.1
  have hl' := Lib.hid h'.1
  have H0 := Lib.hid h
  have H1 := Lib.hid h'
  have HB := Lib.hid hb
  clear h h' hb
  by_cases hnn : n = n'
  · subst hnn
    go_enter Try.func37, Try.ntmps37
    go_wp2_with fail
    go_loopw [13] (fun iv wr => ∃ i : Nat, i ≤ n ∧ iv = .int .i64 i ∧ Hid (∀ j : Nat, j < i → l[j]? = l'[j]?) ∧ Below w.heap.size w wr) (fun iv _ => n - (intOf iv).toNat)
    case atStart => exact ⟨0, Nat.zero_le _, rfl, Lib.hid (fun j h => absurd h (Nat.not_lt_zero _)), Below.refl _ _⟩
    case round =>
      obtain ⟨i, hi, rfl, EQ, O⟩ := hrel
      by_cases h : i < n
      · obtain ⟨ad, e, rfl, he, AT⟩ := (H0.out.below O).at i h
        obtain ⟨ad', e', rfl, he', AT'⟩ := (H1.out.below O).at i h
        have a0 := AT.c0
        have a1 := AT.c1
        have a2 := AT.c2
        have b0 := AT'.c0
        have b1 := AT'.c1
        have b2 := AT'.c2
        have OO := Lib.hid O
        have HE := Lib.hid (And.intro he he')
        have hii : (i : Int) < (n : Int) := by omega
        clear AT AT' O he he'
        obtain ⟨k, v, f⟩ := e
        obtain ⟨k', v', f'⟩ := e'
        dsimp only at *
        rcases e_ne k v f k' v' f' with ⟨rfl, rfl, rfl⟩ | hd | ⟨rfl, hd⟩ | ⟨rfl, rfl, hd⟩
        · have HQ := Lib.hid (show ∀ j : Nat, j < i + 1 → l[j]? = l'[j]? from fun j hj => by
            rcases Nat.lt_succ_iff_lt_or_eq.1 hj with h1 | rfl
            · exact EQ.out j h1
            · rw [HE.out.1, HE.out.2])
          go_wp2_with fail
          go_quiet (fail)
          go_wp2_with fail
          go_roundw
          case rel => exact ⟨i + 1, by omega, by go_num, HQ, Below_drewN OO.out _⟩
          case measure => simp [intOf]; omega
        · have HD := Lib.hid (show l ≠ l' from fun hx => by
            have h1 := HE.out.1
            rw [hx, HE.out.2] at h1
            simp only [Option.some.injEq, E.mk.injEq] at h1
            first | exact hd h1.1.symm | exact hd h1.2.1.symm | exact hd h1.2.2.symm)
          have q1 := toLb hd
          have q2 : ¬ k.toList = k'.toList := by simpa using q1
          go_wp2_with fail
          go_quiet (fail)
          go_wp2_with fail
          go_ret
          exact ⟨by
            cases b
            · rfl
            · exact absurd (HB.out.1 rfl) HD.out, Below_drewN OO.out _⟩
        · have HD := Lib.hid (show l ≠ l' from fun hx => by
            have h1 := HE.out.1
            rw [hx, HE.out.2] at h1
            simp only [Option.some.injEq, E.mk.injEq] at h1
            first | exact hd h1.1.symm | exact hd h1.2.1.symm | exact hd h1.2.2.symm)
          have q1 := toLb hd
          have q2 : ¬ v.toList = v'.toList := by simpa using q1
          go_wp2_with fail
          go_quiet (fail)
          go_wp2_with fail
          go_ret
          exact ⟨by
            cases b
            · rfl
            · exact absurd (HB.out.1 rfl) HD.out, Below_drewN OO.out _⟩
        · have HD := Lib.hid (show l ≠ l' from fun hx => by
            have h1 := HE.out.1
            rw [hx, HE.out.2] at h1
            simp only [Option.some.injEq, E.mk.injEq] at h1
            first | exact hd h1.1.symm | exact hd h1.2.1.symm | exact hd h1.2.2.symm)
          have q1 : (f == f') = false := by simpa using hd
          go_wp2_with fail
          go_quiet (fail)
          go_wp2_with fail
          go_ret
          exact ⟨by
            cases b
            · rfl
            · exact absurd (HB.out.1 rfl) HD.out, Below_drewN OO.out _⟩
      · obtain rfl : i = n := by omega
        have OO := Lib.hid O
        clear O
        go_wp2_with fail
        go_ret
        refine ⟨?_, OO.out⟩
        have : l = l' := by
          apply List.ext_getElem?
          intro j
          by_cases hj : j < i
          · exact EQ.out j hj
          · rw [List.getElem?_eq_none (by have := hl.out; omega), List.getElem?_eq_none (by have := hl'.out; omega)]
        rw [HB.out.2 this]; rfl
  · have hd : (n : Int) ≠ (n' : Int) := by omega
    have hd2 : ((n : Int) == (n' : Int)) = false := by simpa using hd
    go_enter Try.func37, Try.ntmps37
    go_wp2_with fail
    go_ret
    refine ⟨?_, Below.refl _ _⟩
    cases b
    · rfl
    · exfalso
      have := HB.out.1 rfl
      have h1 := hl.out
      rw [this, hl'.out] at h1
      exact hnn h1.symm
set_option maxHeartbeats 4000000 in
theorem same18_any {w : World} (leaf leaf' : Bool) (A A' : Option Addr) (n c n' c' : Nat) (l l' : List E) (h : Ents w A n l) (h' : Ents w A' n' l') (hn : n ≤ 1000000) (hn' : n' ≤ 1000000) (b : Bool) (hb : b = true ↔ leaf = leaf' ∧ l = l') :
    Calls Try.prog 25 #[nodeV leaf A n c, nodeV leaf' A' n' c'] w fun r w' => r = .returned (.bool b) ∧ Below w.heap.size w w' := by
  have O0 := belowAlloc (belowAlloc (Below.refl w.heap.size w) (.cells #[.bool leaf, .slice A n c] 32)) (.cells #[.bool leaf', .slice A' n' c'] 32)
  have B0 := (Blk.new w 32 #[.bool leaf, .slice A n c]).alloc (.cells #[.bool leaf', .slice A' n' c'] 32)
  have B1 := Blk.new (w.alloc (.cells #[.bool leaf, .slice A n c] 32)) 32 #[.bool leaf', .slice A' n' c']
  rw [asz] at B1
  obtain ⟨q, hq⟩ := bool_of (l = l')
  have K := Lib.hid (equal_any (w := (w.alloc (.cells #[.bool leaf, .slice A n c] 32)).alloc (.cells #[.bool leaf', .slice A' n' c'] 32)) A A' n c n' c' l l' (h.below O0) (h'.below O0) hn hn' q hq)
  have O0 := Lib.hid O0
  have HQ := Lib.hid hq
  have HB := Lib.hid hb
  have B0 := Lib.hid B0
  have B1 := Lib.hid B1
  clear h h' hq hb
  unfold nodeV
  by_cases hll : leaf = leaf'
  · subst hll
    go_enter Try.func25, Try.ntmps25
    go_wp2_with fail
    refine K.out.mono ?_
    rintro r w1 ⟨rfl, hb1⟩
    have O1 := Lib.hid (bstep O0.out hb1)
    clear hb1
    go_wp2_with fail
    go_ret
    refine ⟨?_, O1.out⟩
    have h1 := HQ.out
    have h2 := HB.out
    cases q <;> cases b <;> simp_all
  · have hx : b = false := by
      cases b
      · rfl
      · exact absurd (HB.out.1 rfl).1 hll
    subst hx
    have hl2 : (leaf == leaf') = false := by simpa using hll
    go_enter Try.func25, Try.ntmps25
    go_wp2_with fail
    go_ret
    exact ⟨rfl, O0.out⟩
end Go.Proofs.Yticehnnbjbliaab.Nd
