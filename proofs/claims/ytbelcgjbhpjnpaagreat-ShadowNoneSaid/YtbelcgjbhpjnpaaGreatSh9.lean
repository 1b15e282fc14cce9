/- pool by its contracts: frames, find. -/
import Derived.Test.YtbelcgjbhpjnpaaGreatSh8
namespace Go.Proofs.YtbelcgjbhpjnpaaGreat.Sh
open Go.RowKit Pk Dk Pg
attribute [local go_sem ↓] Go.wp_at_zero Go.wp_at_succ
structure Fr where
  page : Int
  pay : ByteArray
  held : Int
  dirty : Bool
  used : Bool
def Fr.cs (f : Fr) : List Value := [.int .i64 f.page, .string f.pay, .int .i64 f.held, .bool f.dirty, .bool f.used]
def Fr.agg (f : Fr) : Value := .agg #[.int .i64 f.page, .string f.pay, .int .i64 f.held, .bool f.dirty, .bool f.used]
def Fr.nil : Fr := ⟨-1, ⟨#[]⟩, 0, false, false⟩
def frc (l : List Fr) : List Value := l.flatMap Fr.cs
theorem frc_length (l : List Fr) : (frc l).length = l.length * 5 := by
  induction l with
  | nil => rfl
  | cons f l ih => simp only [frc, List.flatMap_cons, List.length_append] at ih ⊢; rw [ih]; simp [Fr.cs]; omega
theorem frc_get (l : List Fr) (k i : Nat) (hi : i < 5) (f : Fr) (hf : l[k]? = some f) : (frc l)[k * 5 + i]? = f.cs[i]? := by
  induction l generalizing k with
  | nil => simp at hf
  | cons a l ih =>
    have e5 : a.cs.length = 5 := rfl
    simp only [frc, List.flatMap_cons] at ih ⊢
    cases k with
    | zero =>
      simp at hf
      subst hf
      rw [Nat.zero_mul, Nat.zero_add, List.getElem?_append_left (by omega)]
    | succ k =>
      simp at hf
      rw [List.getElem?_append_right (by omega), e5, show (k + 1) * 5 + i - 5 = k * 5 + i from by omega]
      exact ih k hf
/-- the cells of a row of frames -/
def FrsAt (w : World) (g : Nat) (l : List Fr) : Prop := ∀ k f, l[k]? = some f → w.cell? ⟨g, k * 5, none⟩ = some (.int .i64 f.page) ∧ w.cell? ⟨g, k * 5 + 1, none⟩ = some (.string f.pay) ∧ w.cell? ⟨g, k * 5 + 2, none⟩ = some (.int .i64 f.held) ∧ w.cell? ⟨g, k * 5 + 3, none⟩ = some (.bool f.dirty) ∧ w.cell? ⟨g, k * 5 + 4, none⟩ = some (.bool f.used)
theorem FrsAt.of {w : World} {g : Nat} {l : List Fr} {rest : List Value} {t : TypeId} (B : Blk w g t (frc l ++ rest).toArray) : FrsAt w g l := by
  intro k f hf
  have hk : k < l.length := (List.getElem?_eq_some_iff.1 hf).1
  have hl := frc_length l
  have c : ∀ i v, i < 5 → f.cs[i]? = some v → w.cell? ⟨g, k * 5 + i, none⟩ = some v := fun i v hi hv =>
    B.cell_some (by rw [List.getElem?_toArray, List.getElem?_append_left (by omega), frc_get l k i hi f hf, hv])
  exact ⟨c 0 _ (by omega) rfl, c 1 _ (by omega) rfl, c 2 _ (by omega) rfl, c 3 _ (by omega) rfl, c 4 _ (by omega) rfl⟩
theorem FrsAt.below {w w' : World} {g : Nat} {l : List Fr} (h : FrsAt w g l) (hb : Below w.heap.size w w') : FrsAt w' g l := by
  intro k f hf
  obtain ⟨c0, c1, c2, c3, c4⟩ := h k f hf
  exact ⟨(hb.cell (cell_lt' c0)).trans c0, (hb.cell (cell_lt' c1)).trans c1, (hb.cell (cell_lt' c2)).trans c2, (hb.cell (cell_lt' c3)).trans c3, (hb.cell (cell_lt' c4)).trans c4⟩
/-- the first place where b holds -/
def ixF (b : Fr → Bool) (l : List Fr) : Int := if l.findIdx b < l.length then (l.findIdx b : Int) else -1
def findF (l : List Fr) (p : Int) : Int := if p < 0 then -1 else ixF (fun f => decide (f.page = p)) l
theorem ixF_hit {b : Fr → Bool} {l : List Fr} {k : Nat} {f : Fr} (hf : l[k]? = some f) (hb : b f = true) (ha : ∀ (j : Nat) (a : Fr), j < k → l[j]? = some a → b a = false) : ixF b l = k := by
  have hk : k < l.length := (List.getElem?_eq_some_iff.1 hf).1
  have hg : l[k] = f := (List.getElem?_eq_some_iff.1 hf).2
  have e : l.findIdx b = k := by
    rw [List.findIdx_eq hk]
    exact ⟨by rw [hg]; exact hb, fun j hj => by have := ha j l[j] hj (List.getElem?_eq_getElem (by omega)); simp [this]⟩
  unfold ixF
  rw [e, if_pos hk]
theorem ixF_miss {b : Fr → Bool} {l : List Fr} (ha : ∀ (j : Nat) (a : Fr), l[j]? = some a → b a = false) : ixF b l = -1 := by
  have e : l.findIdx b = l.length := by
    rw [List.findIdx_eq_length]
    intro x hx
    obtain ⟨i, hi, rfl⟩ := List.mem_iff_getElem.1 hx
    exact ha i _ (List.getElem?_eq_getElem hi)
  unfold ixF
  rw [e, if_neg (Nat.lt_irrefl _)]
theorem ret_frame {fn : Func} {p : Tmp} {w : World} {g : Nat} {f : Fr} {tmps : Array Value} (h : fn.results = #[.cell p 150]) (hp : tmps.getD p undef = .pointer (some ⟨g, 0, none⟩)) (B : Blk w g 150 f.cs.toArray) :
    (results fn tmps).run Tryz.prog w = .ok f.agg w := by
  have c0 := B.cell_some (i := 0) rfl
  have c1 := B.cell_some (i := 1) rfl
  have c2 := B.cell_some (i := 2) rfl
  have c3 := B.cell_some (i := 3) rfl
  have c4 := B.cell_some (i := 4) rfl
  rw [results_cell_one h, hp]
  clear h hp B
  unfold Fr.agg
  go_simp
  exact ⟨rfl, rfl, rfl, rfl, rfl⟩
set_option maxHeartbeats 1000000 in
theorem empty_any (w : World) : Calls Tryz.prog 126 #[] w fun e w' => e = .returned Fr.nil.agg ∧ Below w.heap.size w w' := by
  unfold Fr.nil Fr.agg
  go_enter Tryz.func126, Tryz.ntmps126
  go_wp2_with fail
  exact bodyPost_ret (ret_frame (f := Fr.nil) rfl rfl (Blk.new w 150 Fr.nil.cs.toArray)) rfl ⟨rfl, belowAlloc (Below.refl w.heap.size w) _⟩
set_option maxHeartbeats 1000000 in
theorem find1_any (f : Fr) (q : Nat) (p : Int) (w : World) (hq : w.cell? ⟨q, 0, none⟩ = some (.int .i64 p)) (b : Bool) (hb : b = decide (f.page = p)) :
    Calls Tryz.prog 174 #[f.agg, .pointer (some ⟨q, 0, none⟩)] w fun e w' => e = .returned (.bool b) ∧ Below w.heap.size w w' := by
  have O0 := Lib.hid ((Below.refl w.heap.size w).alloc (Nat.le_refl _) (.cells #[.int .i64 f.page, .string f.pay, .int .i64 f.held, .bool f.dirty, .bool f.used] 150))
  have B0 := Blk.new w 150 #[.int .i64 f.page, .string f.pay, .int .i64 f.held, .bool f.dirty, .bool f.used]
  have c0 := B0.cell_some (i := 0) rfl
  have HB := Lib.hid hb
  have hq1 := (O0.out.cell (cell_lt' hq)).trans hq
  clear hb hq B0
  unfold Fr.agg
  go_enter Tryz.func174, Tryz.ntmps174
  go_wp2_with fail
  go_ret
  exact ⟨by rw [HB.out]; rfl, O0.out⟩
set_option maxRecDepth 100000 in
set_option maxHeartbeats 2000000 in
theorem ixfind_any {w : World} (g n c q : Nat) (p : Int) (l : List Fr) (h : FrsAt w g l) (hl : l.length = n) (hn : n ≤ 1000000) (hq : w.cell? ⟨q, 0, none⟩ = some (.int .i64 p)) :
    Calls Tryz.prog 173 #[.slice (some ⟨g, 0, none⟩) n c, .func (Fn.func 174) #[] #[.pointer (some ⟨q, 0, none⟩)]] w fun e w' => e = .returned (.int .i64 (ixF (fun f => decide (f.page = p)) l)) ∧ Below w.heap.size w w' := by
  have HL := Lib.hid hl
  have H0 := Lib.hid h
  have HQ := Lib.hid hq
  clear h hq hl
  go_enter Tryz.func173, Tryz.ntmps173
  go_wp2_with fail
  go_loopw [8] (fun iv wr => ∃ i : Nat, i ≤ n ∧ iv = .int .i64 i ∧ Hid (∀ j a, j < i → l[j]? = some a → decide (a.page = p) = false) ∧ Hid (Below w.heap.size w wr)) (fun iv _ => n - (intOf iv).toNat)
  case atStart => exact ⟨0, Nat.zero_le _, rfl, Lib.hid (fun j a hj => absurd hj (Nat.not_lt_zero j)), Lib.hid (Below.refl _ _)⟩
  case round =>
    obtain ⟨i, hi, rfl, HA, HB⟩ := hrel
    by_cases h : i < n
    · have hf : l[i]? = some (l[i]'(by have := HL.out; omega)) := List.getElem?_eq_getElem _
      generalize (l[i]'(by have := HL.out; omega)) = f at hf
      obtain ⟨c0, c1, c2, c3, c4⟩ := (H0.out.below HB.out) i f hf
      have KF := Lib.hid (find1_any f q p wr ((HB.out.cell (cell_lt' HQ.out)).trans HQ.out) _ rfl)
      have HF := Lib.hid hf
      clear hf
      unfold Fr.agg at KF
      obtain ⟨b, hb⟩ : ∃ b, decide (f.page = p) = b := ⟨_, rfl⟩
      rw [hb] at KF
      have HD := Lib.hid hb
      clear hb
      go_wp2_with fail
      refine KF.out.mono ?_
      rintro e w1 ⟨rfl, hb1⟩
      have HB1 := Lib.hid (bstep HB.out hb1)
      clear hb1
      cases b with
      | true =>
        have he := Lib.hid (ixF_hit (b := fun f => decide (f.page = p)) HF.out HD.out HA.out)
        go_wp2_with fail
        go_ret
        exact ⟨by rw [he.out]; rfl, HB1.out⟩
      | false =>
        go_wp2_with fail
        go_roundw
        case rel =>
          refine ⟨i + 1, by omega, by go_num, Lib.hid (fun j a hj ha => ?_), HB1⟩
          rcases Nat.lt_succ_iff_lt_or_eq.1 hj with hj | rfl
          · exact HA.out j a hj ha
          · have := HF.out.symm.trans ha
            injection this with this
            subst this
            exact HD.out
        case measure => simp [intOf]; omega
    · have he := Lib.hid (ixF_miss (b := fun f => decide (f.page = p)) (l := l) (fun j a ha => HA.out j a (by have := (List.getElem?_eq_some_iff.1 ha).1; have := HL.out; omega) ha))
      go_wp2_with fail
      go_ret
      exact ⟨by rw [he.out]; rfl, HB.out⟩
end Go.Proofs.YtbelcgjbhpjnpaaGreat.Sh
