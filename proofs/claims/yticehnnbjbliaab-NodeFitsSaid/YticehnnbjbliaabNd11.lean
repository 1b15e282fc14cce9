/- nodes: strings compared, and the place of a key. -/
import Derived.Test.YticehnnbjbliaabNd9
import Derived.Lib.Bytealg
namespace Go.Proofs.Yticehnnbjbliaab.Nd
open Go.RowKit Sl
attribute [local go_sem ↓] Go.wp_at_zero Go.wp_at_succ
set_option maxHeartbeats 1000000 in
theorem cmpstr_any (a b : ByteArray) (w : World) :
    Calls Try.prog 44 #[.string a, .string b] w fun e w' => e = .returned (.int .i64 (Lib.compareBytes a.data.toList b.data.toList)) ∧ Below w.heap.size w w' := by
  go_enter Try.func44, Try.ntmps44
  go_wp2_with fail
  rw [run_callFunc_extern Try.func51 (by kernel_rfl) (by kernel_rfl) (by kernel_rfl) (e := Extern.BytealgCompare.compare) (by kernel_rfl), Lib.run_compareString]
  simp only [Result.andThen]
  rw [Oper.upon_value]
  go_wp2
  go_ret
  exact ⟨rfl, Below.refl _ _⟩
set_option maxHeartbeats 1000000 in
theorem compare_any (a b : ByteArray) (w : World) :
    Calls Try.prog 35 #[.string a, .string b] w fun e w' => e = .returned (.int .i64 (Lib.compareBytes a.data.toList b.data.toList)) ∧ Below w.heap.size w w' := by
  have K := Lib.hid (cmpstr_any a b w)
  go_enter Try.func35, Try.ntmps35
  go_wp2_with fail
  refine K.out.mono ?_
  rintro e w1 ⟨rfl, hb⟩
  have HB := Lib.hid hb
  go_wp2_with fail
  go_ret
  exact ⟨rfl, HB.out⟩
set_option maxHeartbeats 1000000 in
theorem find1_any (e : E) (k : ByteArray) (w : World) :
    Calls Try.prog 34 #[e.agg, .string k] w fun r w' => r = .returned (.int .i64 (Lib.compareBytes e.key.data.toList k.data.toList)) ∧ Below w.heap.size w w' := by
  have O0 := Lib.hid ((Below.refl w.heap.size w).alloc (Nat.le_refl _) (.cells #[.string e.key, .string e.val, .int .i64 e.far] 56))
  have B0 := Blk.new w 56 #[.string e.key, .string e.val, .int .i64 e.far]
  have c0 := B0.cell_some (i := 0) rfl
  have K := Lib.hid (fun w => compare_any e.key k w)
  clear B0
  unfold E.agg
  go_enter Try.func34, Try.ntmps34
  go_wp2_with fail
  refine (K.out _).mono ?_
  rintro e w1 ⟨rfl, hb⟩
  have HB := Lib.hid (bstep O0.out hb)
  clear hb
  go_wp2_with fail
  go_ret
  exact ⟨rfl, HB.out⟩
/-- which side of a key an entry stands on -/
def cmpE (e : E) (k : ByteArray) : Int := Lib.compareBytes e.key.data.toList k.data.toList
/-- k is the place of a key among entries -/
def PlaceAt (l : List E) (key : ByteArray) (k : Nat) : Prop := k ≤ l.length ∧ (∀ e, 0 < k → l[k - 1]? = some e → cmpE e key < 0) ∧ (∀ e, l[k]? = some e → 0 ≤ cmpE e key)
/-- a key is there -/
def HasAt (l : List E) (key : ByteArray) (k : Nat) : Prop := ∃ e, l[k]? = some e ∧ cmpE e key = 0
set_option maxRecDepth 100000 in
set_option maxHeartbeats 2000000 in
theorem bsearch_any {w : World} (A : Option Addr) (n c : Nat) (l : List E) (key : ByteArray) (h : Ents w A n l) (hn : n ≤ 1000000) :
    Calls Try.prog 33 #[.slice A n c, .string key, .func (Fn.func 34) #[] #[]] w fun r w' => (∃ k b, r = .returned (.tuple #[.int .i64 (k : Nat), .bool b]) ∧ PlaceAt l key k ∧ (b = true ↔ HasAt l key k)) ∧ Below w.heap.size w w' := by
  have hl := Lib.hid h.1
  have H0 := Lib.hid h
  clear h
  go_enter Try.func33, Try.ntmps33
  go_wp2_with fail
  go_loopw [9, 10] (fun iv jv wr => ∃ i j : Nat, i ≤ j ∧ j ≤ n ∧ iv = .int .i64 i ∧ jv = .int .i64 j ∧ Hid (∀ e, 0 < i → l[i - 1]? = some e → cmpE e key < 0) ∧ Hid (∀ e, l[j]? = some e → 0 ≤ cmpE e key) ∧ Below w.heap.size w wr) (fun iv jv _ => (intOf jv).toNat - (intOf iv).toNat)
  case atStart => exact ⟨0, n, Nat.zero_le _, Nat.le_refl _, rfl, rfl, Lib.hid (fun e h => absurd h (Nat.lt_irrefl _)), Lib.hid (fun e h => by have := (List.getElem?_eq_some_iff.1 h).1; have := hl.out; omega), Below.refl _ _⟩
  case round =>
    obtain ⟨i, j, hij, hj, rfl, rfl, LO, HI, hb⟩ := hrel
    by_cases h : i < j
    · obtain ⟨m, hm⟩ : ∃ m, (i + j) / 2 = m := ⟨_, rfl⟩
      have hmj : m < j := by omega
      have hmi : i ≤ m := by omega
      have hmI : ((i : Int) + (j : Int)) / 2 = (m : Int) := by omega
      obtain ⟨ad, e, rfl, he, AT⟩ := (H0.out.below hb).at m (by omega)
      have HB := Lib.hid hb
      have a0 := AT.c0
      have a1 := AT.c1
      have a2 := AT.c2
      have e1 : IntKind.i64.wrap ((i : Int) + (j : Int)) = (i : Int) + (j : Int) := IntWalk.i64_in _ (by omega)
      have e2 : IntKind.u64.wrap ((i : Int) + (j : Int)) = (i : Int) + (j : Int) := IntWalk.u64_in _ (by omega)
      have e3 : IntKind.i64.wrap (m : Int) = (m : Int) := IntWalk.i64_in _ (by omega)
      have hmn : m < n := by omega
      have KF := Lib.hid (find1_any e key wr)
      have HE := Lib.hid he
      unfold E.agg at KF
      clear AT hb he
      obtain ⟨q, hq⟩ : ∃ q, Lib.compareBytes e.key.data.toList key.data.toList = q := ⟨_, rfl⟩
      have HQ := Lib.hid (show cmpE e key = q from hq)
      rw [hq] at KF
      clear hq
      go_wp2_with fail
      refine KF.out.mono ?_
      rintro r w1 ⟨rfl, hb1⟩
      have HB1 := Lib.hid (bstep HB.out hb1)
      clear hb1
      by_cases hq : q < 0
      · have HLO := Lib.hid (show ∀ x, 0 < m + 1 → l[m + 1 - 1]? = some x → cmpE x key < 0 from fun x _ hx => by
          rw [Nat.add_sub_cancel, HE.out] at hx
          injection hx with hx
          rw [← hx, HQ.out]; exact hq)
        go_wp2_with fail
        go_roundw
        case rel => exact ⟨m + 1, j, by omega, hj, by go_num, rfl, HLO, HI, HB1.out⟩
        case measure => simp [intOf]; omega
      · have HHI := Lib.hid (show ∀ x, l[m]? = some x → 0 ≤ cmpE x key from fun x hx => by
          rw [HE.out] at hx
          injection hx with hx
          rw [← hx, HQ.out]; omega)
        go_wp2_with fail
        go_roundw
        case rel => exact ⟨i, m, hmi, by omega, rfl, rfl, LO, HHI, HB1.out⟩
        case measure => simp [intOf]; omega
    · obtain rfl : i = j := by omega
      have HB := Lib.hid hb
      have HPL := Lib.hid (show PlaceAt l key i from ⟨by have := hl.out; omega, LO.out, HI.out⟩)
      by_cases hin : i < n
      · obtain ⟨ad, e, rfl, he, AT⟩ := (H0.out.below hb).at i hin
        have a0 := AT.c0
        have a1 := AT.c1
        have a2 := AT.c2
        have KF := Lib.hid (find1_any e key wr)
        have HE := Lib.hid he
        unfold E.agg at KF
        clear AT hb he
        obtain ⟨q, hq⟩ : ∃ q, Lib.compareBytes e.key.data.toList key.data.toList = q := ⟨_, rfl⟩
        have HQ := Lib.hid (show cmpE e key = q from hq)
        rw [hq] at KF
        clear hq
        have HI2 : (i : Int) < (n : Int) := by omega
        go_wp2_with fail
        refine KF.out.mono ?_
        rintro r w1 ⟨rfl, hb1⟩
        have HB1 := Lib.hid (bstep HB.out hb1)
        clear hb1
        by_cases hq : q = 0
        · subst hq
          go_wp2_with fail
          go_ret2
          exact ⟨⟨i, true, rfl, HPL.out, by simp only [true_iff]; exact ⟨e, HE.out, HQ.out⟩⟩, HB1.out⟩
        · go_wp2_with fail
          go_ret2
          refine ⟨⟨i, false, by simp [hq], HPL.out, ?_⟩, HB1.out⟩
          simp only [Bool.false_eq_true, false_iff]
          rintro ⟨x, hx, h0⟩
          rw [HE.out] at hx
          injection hx with hx
          subst hx
          exact hq (HQ.out.symm.trans h0)
      · have hin2 : ¬ (i : Int) < (n : Int) := by omega
        clear hb
        go_wp2_with fail
        go_ret2
        refine ⟨⟨i, .inl ⟨rfl, HPL.out, ?_⟩⟩, HB.out⟩
        rintro ⟨x, hx, h0⟩
        have := (List.getElem?_eq_some_iff.1 hx).1
        have := hl.out
        omega
end Go.Proofs.Yticehnnbjbliaab.Nd
