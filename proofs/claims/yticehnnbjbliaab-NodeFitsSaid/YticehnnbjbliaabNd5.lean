/- nodes: which are light. -/
import Derived.Test.YticehnnbjbliaabNd4
namespace Go.Proofs.Yticehnnbjbliaab.Nd
open Go.RowKit Sl
def lightE (e : E) : Prop := e.key.size ≤ 200 ∧ e.val.size ≤ 200
def lightP (l : List E) : Prop := l.length ≤ 60 ∧ ∀ (i : Nat) (e : E), l[i]? = some e → lightE e
set_option maxRecDepth 100000 in
set_option maxHeartbeats 2000000 in
theorem light_any {w : World} (leaf : Bool) (A : Option Addr) (n c : Nat) (l : List E) (h : Ents w A n l) (hn : n ≤ 9223372036854775807) :
    Calls Try.prog 8 #[nodeV leaf A n c] w fun r w' => (∃ b, r = .returned (.bool b) ∧ (b = true ↔ lightP l)) ∧ Below w.heap.size w w' := by
  have O0 := (Below.refl w.heap.size w).alloc (Nat.le_refl _) (.cells #[.bool leaf, .slice A n c] 24)
  have B0 := Lib.hid (Blk.new w 24 #[.bool leaf, .slice A n c])
  have hl := Lib.hid h.1
  have H0 := Lib.hid (h.below O0)
  have O0 := Lib.hid O0
  clear h
  have c1 := B0.out.cell_some (i := 1) rfl
  unfold nodeV
  by_cases hm : n ≤ 60
  · have hm2 : ¬ (60 : Int) < (n : Int) := by omega
    go_enter Try.func8, Try.ntmps8
    go_wp2_with fail
    generalize (w.alloc (.cells #[.bool leaf, .slice A n c] 24)) = W at *
    clear c1
    go_loopw [3] (fun iv wr => ∃ i : Nat, i ≤ n ∧ iv = .int .i64 i ∧ (∀ j e, j < i → l[j]? = some e → lightE e) ∧ Below W.heap.size W wr) (fun iv _ => n - (intOf iv).toNat)
    case atStart => exact ⟨0, by omega, rfl, fun j e hj => absurd hj (Nat.not_lt_zero j), Below.refl _ _⟩
    case round =>
      obtain ⟨i, hi, rfl, hok, hb⟩ := hrel
      have b1 := (B0.out.below hb B0.out.lt).cell_some (i := 1) rfl
      by_cases h : i < n
      · obtain ⟨ad, e, rfl, he, AT⟩ := (H0.out.below hb).at i h
        have HB := Lib.hid hb
        have HOK := Lib.hid hok
        have a0 := AT.c0
        have a1 := AT.c1
        have HE := Lib.hid he
        have HLt := Lib.hid h
        clear hb hok AT he
        have hw : (e.key.size ≤ 200 ∧ e.val.size ≤ 200) ∨ (¬ e.key.size ≤ 200) ∨ (e.key.size ≤ 200 ∧ ¬ e.val.size ≤ 200) := by omega
        rcases hw with ⟨k1, k2⟩ | k1 | ⟨k1, k2⟩
        · have k3 : ¬ (200 : Int) < (e.key.size : Int) := by omega
          have k4 : ¬ (200 : Int) < (e.val.size : Int) := by omega
          go_wp2_with fail
          refine ⟨⟨i + 1, by omega, rfl, ?_, HB.out⟩, by simp [intOf]; omega⟩
          intro j e' hj he'
          rcases Nat.lt_succ_iff_lt_or_eq.1 hj with h1 | rfl
          · exact HOK.out j e' h1 he'
          · rw [HE.out] at he'
            injection he' with he'
            subst he'
            exact ⟨k1, k2⟩
        · have k3 : (200 : Int) < (e.key.size : Int) := by omega
          go_wp2_with fail
          go_ret
          refine ⟨⟨false, rfl, ?_⟩, bstep O0.out HB.out⟩
          simp only [Bool.false_eq_true, false_iff]
          intro hp
          exact k1 (hp.2 i e HE.out).1
        · have k3 : ¬ (200 : Int) < (e.key.size : Int) := by omega
          have k4 : (200 : Int) < (e.val.size : Int) := by omega
          go_wp2_with fail
          go_ret
          exact ⟨.inl ⟨rfl, fun hp => k2 (hp.2 i e HE.out).2⟩, bstep O0.out HB.out⟩
      · have HB := Lib.hid hb
        have HOK := Lib.hid hok
        clear hb hok
        go_wp2_with fail
        go_ret
        refine ⟨⟨true, rfl, ?_⟩, bstep O0.out HB.out⟩
        simp only [true_iff]
        have := hl.out
        exact ⟨by omega, fun j e he => HOK.out j e (by have := (List.getElem?_eq_some_iff.1 he).1; omega) he⟩
  · have hm2 : (60 : Int) < (n : Int) := by omega
    go_enter Try.func8, Try.ntmps8
    go_wp2_with fail
    go_ret
    refine ⟨⟨false, rfl, ?_⟩, O0.out⟩
    simp only [Bool.false_eq_true, false_iff]
    intro hp
    have := hl.out
    exact hm (by have := hp.1; omega)
end Go.Proofs.Yticehnnbjbliaab.Nd
