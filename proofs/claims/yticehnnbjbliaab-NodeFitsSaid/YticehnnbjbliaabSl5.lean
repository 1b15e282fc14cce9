/- slots by its contracts: All, with. -/
import Derived.Test.YticehnnbjbliaabSl4
namespace Go.Proofs.Yticehnnbjbliaab.Sl
open Go.RowKit
attribute [local go_sem ↓] exec_app

theorem slc_blkOf {w : World} {e : TypeId} {size n : Nat} {v : Value} {l : List Value} (h : Slc w e size v n l) : ∀ g ∈ ownB v, ∃ cs, Blk w g e cs := by
  rcases h.2 with ⟨rfl, _⟩ | ⟨g, cap, rest, rfl, B, _⟩
  · simp [ownB]
  · intro x hx; simp [ownB] at hx; subst hx; exact ⟨_, B⟩
theorem slc_ne {w : World} {e e' : TypeId} {size size' n n' : Nat} {v v' : Value} {l l' : List Value} (h : Slc w e size v n l) (h' : Slc w e' size' v' n' l') (hne : e ≠ e') : ∀ g ∈ ownB v, g ∉ ownB v' := by
  intro g hg hg'
  obtain ⟨_, B⟩ := slc_blkOf h g hg
  obtain ⟨_, B'⟩ := slc_blkOf h' g hg'
  exact B.ne_ B' hne rfl
def strs (l : List (List UInt8)) : List Value := l.map fun r => .string ⟨r.toArray⟩
theorem strs_snoc (l : List (List UInt8)) (r : List UInt8) : strs l ++ [.string ⟨r.toArray⟩] = strs (l ++ [r]) := by simp [strs]
@[simp] theorem strs_length (l : List (List UInt8)) : (strs l).length = l.length := by simp [strs]
theorem info_string : (Try.prog.info? 9).map (fun i => (i.zero, i.size, i.bytes)) = some (some (.string .empty), 1, 16) := by kernel_rfl
theorem recs_take (b : List UInt8) (k : Nat) (h : k < at2 b 0) : (recs b).take (k + 1) = (recs b).take k ++ [rec1 b (slot b k)] := by
  unfold recs
  rw [← List.map_take, slots_take b k h, List.map_append, List.map_take]; rfl
/-- what All tells -/
def AllTold (s : ByteArray) (w : World) (e : Ending) (w' : World) : Prop :=
  ∃ v, e = .returned (.tuple #[v, .int .i64 (checkF s.data.toList)]) ∧ Below w.heap.size w w' ∧ (∀ g ∈ ownB v, w.heap.size ≤ g) ∧
    ((checkF s.data.toList = 0 ∧ Slc w' 9 1 v (at2 s.data.toList 0) (strs (recs s.data.toList))) ∨ (checkF s.data.toList ≠ 0 ∧ v = .slice none 0 0))
set_option maxRecDepth 100000 in
set_option maxHeartbeats 2000000 in
theorem all_any (s : ByteArray) (w : World) (hs : s.size ≤ 1000000) :
    Calls Try.prog 31 #[.string s] w (AllTold s w) := by
  have KC := Lib.hid (check_any s w hs)
  by_cases h : checkF s.data.toList = 0
  · have hS := (checkF_ok _).1 h
    have hl2 : s.size = 232 := by have := hS.len; simpa using this
    have h4 := hS.head
    have h5 := hS.heap
    rw [h] at KC
    have HC := Lib.hid h
    have KL := Lib.hid (fun w' => list_any s w' (by omega) hs)
    have HN := Lib.hid (slots_length s.data.toList)
    have HG := Lib.hid (slots_getElem s.data.toList)
    have HT := Lib.hid (recs_take s.data.toList)
    have HF := Lib.hid (fun k (hk : k < at2 s.data.toList 0) => hS.fit.lies _ (List.mem_of_getElem? (slots_get s.data.toList k hk)))
    have HA := Lib.hid (show (recs s.data.toList).take (at2 s.data.toList 0) = recs s.data.toList from List.take_of_length_le (by rw [recs_length]; exact Nat.le_refl _))
    clear hS h
    generalize hn : at2 s.data.toList 0 = n at *
    have HN0 := Lib.hid hn
    clear hn
    go_enter Try.func31, Try.ntmps31
    go_wp2_with fail
    refine KC.out.mono ?_
    rintro e w1 ⟨rfl, hb1⟩
    have hb1 := Lib.hid hb1
    go_wp2_with fail
    refine (KL.out _).mono ?_
    rintro e w3 ⟨v, rfl, S, hb3, fr⟩
    obtain ⟨A, c, rfl⟩ := slc_val S
    have S := Lib.hid S
    have O3 := Lib.hid (bstep hb1.out hb3)
    have FR := Lib.hid (show ∀ x ∈ ownB (.slice A n c), w.heap.size ≤ x from fun x hx => Nat.le_trans hb1.out.size (fr x hx))
    clear hb3 fr KL hb1
    go_wp2_with fail
    go_loopw [5, 16] (fun v iv wr => ∃ k : Nat, k ≤ n ∧ iv = .int .i64 k ∧ Slc wr 9 1 v k (strs ((recs s.data.toList).take k)) ∧ Slc wr 81 2 (.slice A n c) n (sc (slots s.data.toList)) ∧ Below w.heap.size w wr ∧ Hid (∀ g ∈ ownB v, w.heap.size ≤ g)) (fun _ iv _ => n - (intOf iv).toNat)
    case atStart => exact ⟨0, Nat.zero_le _, rfl, by rw [List.take_zero]; exact Slc.nil _ _ _, S.out, O3.out, Lib.hid (by simp [ownB])⟩
    case round =>
      obtain ⟨k, hk, rfl, T, S, O, F⟩ := hrel
      obtain ⟨TA, tc, rfl⟩ := slc_val T
      by_cases h : k < n
      · obtain ⟨g, cap, rest, hv, -, hcap, -⟩ := S.form (by omega) (by omega)
        simp only [Value.slice.injEq, true_and] at hv
        obtain ⟨rfl, rfl⟩ := hv
        have hkl : k < (slots s.data.toList).length := by rw [HN.out]; exact h
        obtain ⟨c0, c1⟩ := slot_cells S k hkl
        rw [HG.out k hkl] at c0 c1
        have hf := HF.out k h
        have KR := Lib.hid (fun w' => record_any s (slot s.data.toList k) w' (by omega) hs)
        have HTk := Lib.hid (HT.out k (HN0.out ▸ h))
        generalize slot s.data.toList k = x at *
        obtain ⟨x0, x1⟩ := x
        simp only at hf c0 c1 KR
        have O8 := Lib.hid (((Below.refl wr.heap.size wr).alloc (Nat.le_refl _) (.cells #[.int .i64 x0, .int .i64 x1] 81)))
        have OO := Lib.hid O
        have SS := Lib.hid S
        have TT := Lib.hid T
        clear S T O
        go_wp2_with fail
        refine (KR.out _).mono ?_
        rintro e w4 ⟨rfl, hb4⟩
        have hb4 := bstep O8.out hb4
        have T4 := TT.out.below hb4
        have S4 := SS.out.below hb4
        have O4 := Lib.hid (bstep OO.out hb4)
        generalize rec1 s.data.toList (x0, x1) = r at *
        obtain ⟨v', w5, ea, T5, o5, F5⟩ := append_one (P := Try.prog) T4 34 34 (.string .empty) 16 Try.underlying34 info_string rfl (.string ⟨r.toArray⟩) rfl (by unfold maxLen; omega) (by omega)
        rw [strs_snoc, ← HTk.out] at T5
        have S5 := Lib.hid (S4.only o5 (slc_ne S4 T4 (by decide)))
        have F6 := Lib.hid (show ∀ g ∈ ownB v', w.heap.size ≤ g from fun g hg => (F5 g hg).elim (F.out g) (fun h => Nat.le_trans O4.out.size h))
        have O5 := Lib.hid (O4.out.trans (o5.below_of O4.out.size F.out))
        obtain ⟨VA, vc, rfl⟩ := slc_val T5
        have T5 := Lib.hid T5
        clear hb4 T4 S4 o5 F5 SS TT OO
        go_wp2_with fail
        go_roundw
        case rel => exact ⟨k + 1, by omega, by go_num, T5.out, S5.out, O5.out, F6⟩
        case measure => simp [intOf]; omega
      · have hkn := Lib.hid (show k = n by omega)
        have OO := Lib.hid O
        have TT := Lib.hid T
        clear S O T
        go_wp2_with fail
        go_ret2
        refine ⟨_, by rw [HC.out]; rfl, OO.out, F.out, .inl ⟨HC.out, ?_⟩⟩
        have h1 := TT.out
        cases hkn.out
        rw [HA.out] at h1
        rw [HN0.out]
        exact h1
  · have HC := Lib.hid h
    have hb : (checkF s.data.toList == 0) = false := by simpa using h
    clear h
    generalize hq : checkF s.data.toList = q at *
    have HQ := Lib.hid hq
    clear hq
    go_enter Try.func31, Try.ntmps31
    go_wp2_with fail
    refine KC.out.mono ?_
    rintro e w1 ⟨rfl, hb1⟩
    have hb1 := Lib.hid hb1
    go_wp2_with fail
    go_ret2
    exact ⟨_, by rw [HQ.out]; rfl, hb1.out, by simp [ownB], .inr ⟨by rw [HQ.out]; exact HC.out, rfl⟩⟩
end Go.Proofs.Yticehnnbjbliaab.Sl
