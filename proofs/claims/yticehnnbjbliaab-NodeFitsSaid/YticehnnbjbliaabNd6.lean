/- nodes: the document's Right. -/
import Derived.Test.YticehnnbjbliaabNd6a
namespace Go.Proofs.Yticehnnbjbliaab.Nd
open Go.RowKit Sl
attribute [local go_sem ↓] Go.wp_at_zero Go.wp_at_succ
set_option maxRecDepth 100000 in
set_option maxHeartbeats 8000000 in
theorem right_ref {w : World} (leaf : Bool) (A : Option Addr) (n c : Nat) (l : List E) (h : Ents w A n l) (hn : n ≤ 9223372036854775807) (b : Bool) (hb : b = true ↔ mayP l leaf) :
    Calls Try.prog 12 #[nodeV leaf A n c] w fun r w' => r = .returned (.bool b) ∧ Below w.heap.size w w' := by
  have O0 := (Below.refl w.heap.size w).alloc (Nat.le_refl _) (.cells #[.bool leaf, .slice A n c] 24)
  have B0 := Lib.hid (Blk.new w 24 #[.bool leaf, .slice A n c])
  have hl := Lib.hid h.1
  have H0 := Lib.hid (h.below O0)
  have O0 := Lib.hid O0
  replace hb := Lib.hid hb
  clear h
  have c1 := B0.out.cell_some (i := 1) rfl
  unfold nodeV
  go_enter Try.func12, Try.ntmps12
  go_wp2_with fail
  generalize (w.alloc (.cells #[.bool leaf, .slice A n c] 24)) = W at *
  clear c1
  go_loopw [3] (fun iv wr => ∃ i : Nat, i ≤ n ∧ iv = .int .i64 i ∧ (∀ j, j < i → okAt l leaf j) ∧ Below W.heap.size W wr) (fun iv _ => n - (intOf iv).toNat)
  case atStart => exact ⟨0, by omega, rfl, fun j hj => absurd hj (Nat.not_lt_zero j), Below.refl _ _⟩
  case round =>
    obtain ⟨i, hi, rfl, hok, hbw⟩ := hrel
    have b0 := (B0.out.below hbw B0.out.lt).cell_some (i := 0) rfl
    have b1 := (B0.out.below hbw B0.out.lt).cell_some (i := 1) rfl
    by_cases h : i < n
    · obtain ⟨ad, e, rfl, he, AT⟩ := (H0.out.below hbw).at i h
      have HB := Lib.hid hbw
      have HOK := Lib.hid hok
      have a0 := AT.c0
      have a1 := AT.c1
      have a2 := AT.c2
      have HE := Lib.hid he
      have hlt : w.heap.size < wr.heap.size := (B0.out.below hbw B0.out.lt).lt
      have HB2 := Lib.hid (bstep hbw (belowAlloc (Below.refl wr.heap.size wr) (.cells #[.string e.key, .string e.val, .int .i64 e.far] 50)))
      have hal := belowAlloc (Below.refl wr.heap.size wr) (.cells #[.string e.key, .string e.val, .int .i64 e.far] 50)
      have BE := Lib.hid (Blk.new wr 50 #[.string e.key, .string e.val, .int .i64 e.far])
      have HE2 := Lib.hid ((H0.out.below hbw).below hal)
      have HN := Lib.hid ((B0.out.below hbw B0.out.lt).below hal (B0.out.below hbw B0.out.lt).lt)
      clear hal hbw hok AT he
      by_cases hr : rightP e leaf
      · have HRP := Lib.hid hr
        rw [rightP_iff] at hr
        obtain ⟨r1, r2, r3, r4, r5, r6⟩ := hr
        have k1 : ¬ (32 : Int) < (e.key.size : Int) := by omega
        have k2 : ¬ (40 : Int) < (e.val.size : Int) := by omega
        have k3 : ¬ e.far < -1 := by omega
        have k4 : ¬ 511 < e.far := by omega
        by_cases hf : e.far < 0
        · obtain rfl := r6 hf
          have k5 : ¬ 0 ≤ e.far := by omega
          clear r5 r6 r3 r4
          go_wp2_with fail
          have x0 := BE.out.cell_some (i := 0) rfl
          have y1 := HN.out.cell_some (i := 1) rfl
          generalize (wr.alloc (.cells #[.string e.key, .string e.val, .int .i64 e.far] 50)) = wA at *
          by_cases hi0 : i = 0
          · have z1 : ¬ (0 : Int) < (i : Int) := by omega
            have z2 : ¬ 0 < i := by omega
            have HI := Lib.hid hi0
            clear hi0
            go_quiet (fail)
            go_wp2_with fail
            refine ⟨⟨i + 1, by omega, rfl, ?_, Below_drewN HB2.out _⟩, by simp [intOf]; omega⟩
            intro j hj e' he'
            obtain rfl : j = i := by have := HI.out; omega
            rw [HE.out] at he'
            injection he' with he'
            subst he'
            exact ⟨HRP.out, fun h0 => absurd h0 z2⟩
          · obtain ⟨ad', p, e', hp, AP⟩ := HE2.out.at (i - 1) (by omega)
            injection e' with e'
            subst e'
            have q0 := AP.c0
            have e1 : IntKind.i64.wrap ((i : Int) - 1) = (i : Int) - 1 := IntWalk.i64_in _ (by omega)
            have e2 : (0 : Int) ≤ (i : Int) - 1 := by omega
            have e3 : (i : Int) - 1 < (n : Int) := by omega
            have e4 : ((i : Int) - 1).toNat = i - 1 := by omega
            have e5 : (0 : Int) < (i : Int) := by omega
            have e6 : (1 : Int) ≤ (i : Int) := by omega
            have e7 : 0 < i := by omega
            go_quiet (fail)
            go_wp2_with fail
            · rename_i hx
              go_ret
              refine ⟨?_, Below_drewN (bstep O0.out HB2.out) _⟩
              have hbF : b = false := by
                rw [Bool.eq_false_iff]
                intro hbt
                have h1 := (hb.out.1 hbt i (by have := hl.out; omega) e HE.out).2 (by omega) p hp
                unfold leB at h1
                rcases hx with hx | hx
                · rw [hx] at h1; simp at h1
                · rw [hx] at h1; simp at h1
              subst hbF; rfl
            · rename_i hx
              refine ⟨⟨i + 1, by omega, rfl, ?_, Below_drewN HB2.out _⟩, by simp [intOf]; omega⟩
              intro j hj
              rcases Nat.lt_succ_iff_lt_or_eq.1 hj with h1 | rfl
              · exact HOK.out j h1
              · intro e' he'
                rw [HE.out] at he'
                injection he' with he'
                subst he'
                refine ⟨HRP.out, fun _ p' hp' => ?_⟩
                rw [hp] at hp'
                injection hp' with hp'
                subst hp'
                unfold leB
                rw [hx.1, hx.2]; rfl
        · have hv := size_zero (r5 (by omega))
          have k5 : 0 ≤ e.far := by omega
          have hv2 : e.val.toList = [] := by rw [hv, bytes_toList]; rfl
          have hv3 : e.val.toList.isEmpty = true := by rw [hv2]; rfl
          clear hv
          have k6 : ¬ e.far < 0 := hf
          clear r5 r6 r3 r4
          go_wp2_with fail
          have x0 := BE.out.cell_some (i := 0) rfl
          have y1 := HN.out.cell_some (i := 1) rfl
          generalize (wr.alloc (.cells #[.string e.key, .string e.val, .int .i64 e.far] 50)) = wA at *
          by_cases hi0 : i = 0
          · have z1 : ¬ (0 : Int) < (i : Int) := by omega
            have z2 : ¬ 0 < i := by omega
            have HI := Lib.hid hi0
            clear hi0
            go_quiet (fail)
            go_wp2_with fail
            refine ⟨⟨i + 1, by omega, rfl, ?_, Below_drewN HB2.out _⟩, by simp [intOf]; omega⟩
            intro j hj e' he'
            obtain rfl : j = i := by have := HI.out; omega
            rw [HE.out] at he'
            injection he' with he'
            subst he'
            exact ⟨HRP.out, fun h0 => absurd h0 z2⟩
          · obtain ⟨ad', p, e', hp, AP⟩ := HE2.out.at (i - 1) (by omega)
            injection e' with e'
            subst e'
            have q0 := AP.c0
            have e1 : IntKind.i64.wrap ((i : Int) - 1) = (i : Int) - 1 := IntWalk.i64_in _ (by omega)
            have e2 : (0 : Int) ≤ (i : Int) - 1 := by omega
            have e3 : (i : Int) - 1 < (n : Int) := by omega
            have e4 : ((i : Int) - 1).toNat = i - 1 := by omega
            have e5 : (0 : Int) < (i : Int) := by omega
            have e6 : (1 : Int) ≤ (i : Int) := by omega
            have e7 : 0 < i := by omega
            go_quiet (fail)
            go_wp2_with fail
            · rename_i hx
              go_ret
              refine ⟨?_, Below_drewN (bstep O0.out HB2.out) _⟩
              have hbF : b = false := by
                rw [Bool.eq_false_iff]
                intro hbt
                have h1 := (hb.out.1 hbt i (by have := hl.out; omega) e HE.out).2 (by omega) p hp
                unfold leB at h1
                rcases hx with hx | hx
                · rw [hx] at h1; simp at h1
                · rw [hx] at h1; simp at h1
              subst hbF; rfl
            · rename_i hx
              refine ⟨⟨i + 1, by omega, rfl, ?_, Below_drewN HB2.out _⟩, by simp [intOf]; omega⟩
              intro j hj
              rcases Nat.lt_succ_iff_lt_or_eq.1 hj with h1 | rfl
              · exact HOK.out j h1
              · intro e' he'
                rw [HE.out] at he'
                injection he' with he'
                subst he'
                refine ⟨HRP.out, fun _ p' hp' => ?_⟩
                rw [hp] at hp'
                injection hp' with hp'
                subst hp'
                unfold leB
                rw [hx.1, hx.2]; rfl
      · have HBF := Lib.hid (show b = false from by
          rw [Bool.eq_false_iff]
          intro hbt
          exact hr (hb.out.1 hbt i (by have := hl.out; omega) e HE.out).1)
        rw [rightP_iff] at hr
        have hw : ¬ e.key.size ≤ 32 ∨ (e.key.size ≤ 32 ∧ ¬ e.val.size ≤ 40) ∨ (e.key.size ≤ 32 ∧ e.val.size ≤ 40 ∧ e.far < -1) ∨ (e.key.size ≤ 32 ∧ e.val.size ≤ 40 ∧ 511 < e.far) ∨ (e.key.size ≤ 32 ∧ e.val.size ≤ 40 ∧ 0 ≤ e.far ∧ e.far ≤ 511 ∧ e.val.size ≠ 0) ∨ (e.key.size ≤ 32 ∧ e.val.size ≤ 40 ∧ -1 ≤ e.far ∧ e.far < 0 ∧ leaf = false) := by
          rcases Nat.lt_or_ge 32 e.key.size with q | q
          · exact .inl (by omega)
          rcases Nat.lt_or_ge 40 e.val.size with q2 | q2
          · exact .inr (.inl ⟨q, by omega⟩)
          by_cases q3 : e.far < -1
          · exact .inr (.inr (.inl ⟨q, q2, q3⟩))
          by_cases q4 : 511 < e.far
          · exact .inr (.inr (.inr (.inl ⟨q, q2, q4⟩)))
          by_cases q5 : e.far < 0
          · refine .inr (.inr (.inr (.inr (.inr ⟨q, q2, by omega, q5, ?_⟩))))
            cases leaf
            · rfl
            · exact absurd ⟨q, q2, by omega, by omega, fun h => absurd h (by omega), fun _ => rfl⟩ hr
          · exact .inr (.inr (.inr (.inr (.inl ⟨q, q2, by omega, by omega, fun h0 => hr ⟨q, q2, by omega, by omega, fun _ => h0, fun h => absurd h q5⟩⟩))))
        clear hr
        rcases hw with h1 | ⟨h1, h2⟩ | ⟨h1, h2, h3⟩ | ⟨h1, h2, h3⟩ | ⟨h1, h2, h3, h4, h5⟩ | ⟨h1, h2, h3, h4, rfl⟩
        · have k1 : (32 : Int) < (e.key.size : Int) := by omega
          all_goals
            go_wp2_with fail
            go_ret
            refine ⟨?_, bstep O0.out HB2.out⟩
            have hbF := HBF.out
            subst hbF; rfl
        · have k1 : ¬ (32 : Int) < (e.key.size : Int) := by omega
          have k2 : (40 : Int) < (e.val.size : Int) := by omega
          all_goals
            go_wp2_with fail
            go_ret
            refine ⟨?_, bstep O0.out HB2.out⟩
            have hbF := HBF.out
            subst hbF; rfl
        · have k1 : ¬ (32 : Int) < (e.key.size : Int) := by omega
          have k2 : ¬ (40 : Int) < (e.val.size : Int) := by omega
          all_goals
            go_wp2_with fail
            go_ret
            refine ⟨?_, bstep O0.out HB2.out⟩
            have hbF := HBF.out
            subst hbF; rfl
        · have k1 : ¬ (32 : Int) < (e.key.size : Int) := by omega
          have k2 : ¬ (40 : Int) < (e.val.size : Int) := by omega
          have k3 : ¬ e.far < -1 := by omega
          all_goals
            go_wp2_with fail
            go_ret
            refine ⟨?_, bstep O0.out HB2.out⟩
            have hbF := HBF.out
            subst hbF; rfl
        · have k1 : ¬ (32 : Int) < (e.key.size : Int) := by omega
          have k2 : ¬ (40 : Int) < (e.val.size : Int) := by omega
          have k3 : ¬ e.far < -1 := by omega
          have k4 : ¬ 511 < e.far := by omega
          have k5 := toL_empty h5
          all_goals
            go_wp2_with fail
            go_ret
            refine ⟨?_, bstep O0.out HB2.out⟩
            have hbF := HBF.out
            subst hbF; rfl
        · have k1 : ¬ (32 : Int) < (e.key.size : Int) := by omega
          have k2 : ¬ (40 : Int) < (e.val.size : Int) := by omega
          have k3 : ¬ e.far < -1 := by omega
          have k4 : ¬ 511 < e.far := by omega
          have k5 : ¬ 0 ≤ e.far := by omega
          all_goals
            go_wp2_with fail
            go_ret
            refine ⟨?_, bstep O0.out HB2.out⟩
            have hbF := HBF.out
            subst hbF; rfl
    · have HB := Lib.hid hbw
      have HOK := Lib.hid hok
      clear hbw hok
      go_wp2_with fail
      go_ret
      refine ⟨?_, bstep O0.out HB.out⟩
      have := hl.out
      have h1 : b = true := hb.out.2 (fun j hj => HOK.out j (by omega))
      subst h1; rfl
end Go.Proofs.Yticehnnbjbliaab.Nd
