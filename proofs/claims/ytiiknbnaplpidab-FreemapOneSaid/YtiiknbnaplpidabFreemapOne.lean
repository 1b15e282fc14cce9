/-
  FreemapOne: for every input the law returns true, and each argument reads behind the call as before. No condition of its own.
-/
import Derived.Test.YtiiknbnaplpidabFmLaw
namespace Go.Proofs.Ytiiknbnaplpidab.freemapOne
open Go.ChangeShapes Go.WideShapes Go.ChangeAt Go.RowKit
open Go.ChangeMaps (open_string shut_string)
set_option linter.unusedVariables false

open Fm
def bump (s : List Int) (x : Int) : List Int := s.set x.toNat (s.getD x.toNat 0 + 1)
def seenF (d : List Int) : List Int := d.foldl bump (List.replicate 12 0)
theorem seenF_snoc (d : List Int) (x : Int) : seenF (d ++ [x]) = bump (seenF d) x := by simp [seenF]
theorem bump_length (s : List Int) (x : Int) : (bump s x).length = s.length := by simp [bump]
theorem seenF_length (d : List Int) : (seenF d).length = 12 := by
  have : ∀ (d : List Int) (s : List Int), (d.foldl bump s).length = s.length := by
    intro d
    induction d with
    | nil => intro s; rfl
    | cons x d ih => intro s; simp only [List.foldl_cons]; rw [ih, bump_length]
  simp [seenF, this]
theorem bump_get (s : List Int) (x : Int) (hx : 0 ≤ x) (hx2 : x < s.length) (i : Nat) : (bump s x).getD i 0 = s.getD i 0 + if x = i then 1 else 0 := by
  obtain ⟨k, rfl⟩ := Int.eq_ofNat_of_zero_le hx
  have hk : k < s.length := by omega
  unfold bump
  simp only [Int.toNat_natCast, List.getD]
  rw [List.getElem?_set]
  by_cases h : k = i
  · subst h; simp [hk]
  · rw [if_neg h, if_neg (by omega)]; simp
theorem seenF_count (d : List Int) (hd : ∀ x ∈ d, 0 ≤ x ∧ x < 12) (i : Nat) : (seenF d).getD i 0 = d.count (i : Int) := by
  have : ∀ (d : List Int) (s : List Int), s.length = 12 → (∀ x ∈ d, 0 ≤ x ∧ x < 12) → (d.foldl bump s).getD i 0 = s.getD i 0 + d.count (i : Int) := by
    intro d
    induction d with
    | nil => intro s _ _; simp
    | cons x d ih =>
      intro s hs hd
      have hx := hd x (by simp)
      simp only [List.foldl_cons]
      rw [ih _ (by rw [bump_length]; exact hs) (fun y hy => hd y (by simp [hy])), bump_get s x hx.1 (by rw [hs]; exact hx.2), List.count_cons]
      by_cases h : x = i
      · simp [h]; omega
      · simp [h]
  have h := this d (List.replicate 12 0) (by simp) hd
  unfold seenF
  rw [h]
  have : (List.replicate 12 (0 : Int)).getD i 0 = 0 := by
    simp only [List.getD, List.getElem?_replicate]; split <;> rfl
  rw [this]; simp
theorem listTo_mem (l : List Int) (k : Int) (n : Nat) : ∀ x ∈ listTo l k n, 0 ≤ x ∧ x < n := by
  induction n with
  | zero => intro x hx; simp [listTo] at hx
  | succ n ih =>
    intro x hx
    simp only [listTo, List.mem_append] at hx
    rcases hx with h | h
    · have := ih x h; omega
    · split at h <;> simp at h; omega
theorem listTo_count (l : List Int) (k : Int) (n i : Nat) : (listTo l k n).count (i : Int) = if i < n ∧ l.getD i 0 = k then 1 else 0 := by
  induction n with
  | zero => simp [listTo]
  | succ n ih =>
    simp only [listTo, List.count_append, ih]
    by_cases h : i = n
    · subst h
      rw [if_neg (by omega)]
      by_cases h2 : l.getD i 0 = k
      · rw [if_pos h2, if_pos ⟨by omega, h2⟩]; simp
      · rw [if_neg h2, if_neg (by omega)]; simp
    · have e : (if l.getD n 0 = k then [(n : Int)] else []).count (i : Int) = 0 := by
        refine List.count_eq_zero.2 fun hm => ?_
        by_cases h3 : l.getD n 0 = k
        · rw [if_pos h3] at hm; simp at hm; omega
        · rw [if_neg h3] at hm; simp at hm
      rw [e]
      by_cases h2 : i < n ∧ l.getD i 0 = k
      · rw [if_pos h2, if_pos ⟨by omega, h2.2⟩]
      · rw [if_neg h2, if_neg (by intro h3; exact h2 ⟨by omega, h3.2⟩)]
def doneTo (l : List Int) : Nat → List Int
  | 0 => []
  | k + 1 => doneTo l k ++ listF l k
theorem doneTo_mem (l : List Int) (hl : l.length = 12) (k : Nat) : ∀ x ∈ doneTo l k, 0 ≤ x ∧ x < 12 := by
  induction k with
  | zero => intro x hx; simp [doneTo] at hx
  | succ k ih =>
    intro x hx
    simp only [doneTo, List.mem_append] at hx
    rcases hx with h | h
    · exact ih x h
    · have := listTo_mem l k l.length x h; omega
theorem doneTo_length (l : List Int) (hl : l.length = 12) (k : Nat) : (doneTo l k).length ≤ 12 * k := by
  induction k with
  | zero => simp [doneTo]
  | succ k ih => simp only [doneTo, List.length_append]; have := listTo_length l k l.length; unfold listF; omega
theorem one_each (l : List Int) (hl : l.length = 12) (hok : OkL l) (i : Nat) (hi : i < 12) : (seenF (doneTo l 4)).getD i 0 = 1 := by
  rw [seenF_count _ (doneTo_mem l hl 4)]
  simp only [doneTo, List.nil_append, List.count_append, listF, listTo_count, hl]
  have hx := hok (l.getD i 0) (by
    have h : i < l.length := by omega
    simp only [List.getD, List.getElem?_eq_getElem h, Option.getD_some]; exact List.getElem_mem h)
  generalize l.getD i 0 = x at hx
  rcases hx with rfl | rfl | rfl | rfl <;> simp [hi]
theorem seen_range (d : List Int) (hd : ∀ x ∈ d, 0 ≤ x ∧ x < 12) (i : Nat) : 0 ≤ (seenF d).getD i 0 ∧ (seenF d).getD i 0 ≤ d.length := by
  rw [seenF_count d hd i]
  have : d.count (i : Int) ≤ d.length := List.count_le_length
  omega
theorem take_mem {d : List Int} {n : Nat} {P : Int → Prop} (h : ∀ x ∈ d, P x) : ∀ x ∈ d.take n, P x := fun x hx => h x (List.mem_of_mem_take hx)

theorem acts_of {H : Type} {enc : TypeId × Value → H} {w : World} {base : Nat} {v : Value} {d : DataW H} {ps : List MemPlace} (hok : Value.okWide Try.prog w .any base 22 v) (h : DataW.Trod enc Try.prog w 0 (fun _ => true) true 22 v d ps) :
    ∃ (A : Option Addr) (n c : Nat) (K I : Nat → Int), v = .slice A n c ∧ n ≤ 9223372036854775807 ∧ Acts w A n K I := by
  obtain ⟨A, n, c, K, I, h1, h2, h3⟩ := pairs_view Try.underlying22 Try.underlying32 (by kernel_rfl) rfl rfl (by kernel_rfl) (by kernel_rfl) Try.underlying3 Try.underlying3 hok h
  exact ⟨A, n, c, K, I, h1, by simpa [maxLen] using h2, Acts.of h3⟩

set_option maxRecDepth 100000 in
set_option maxHeartbeats 4000000 in
theorem walk {H : Type} {enc : TypeId × Value → H} {w : World} {base : Nat} {v : Value} {d : DataW H} {ps : List MemPlace} (hok : Value.okWide Try.prog w .any base 22 v) (h : DataW.Trod enc Try.prog w 0 (fun _ => true) true 22 v d ps) :
    Calls Try.prog 3 #[v] w fun e w' => e = .returned (.bool true) ∧ Below w.heap.size w w' := by
  obtain ⟨A, m, c, K, I, rfl, hm, ha⟩ := acts_of hok h
  clear hok h
  have KM := Lib.hid (made_yes 12 A m c K I ha hm (by omega))
  clear ha
  unfold mp at KM
  have hmk : ∀ w' : World, (Instr.makeSlice 28 (.int .i64 12) (.int .i64 12)).run Try.prog w' = .ok (.slice (some ⟨w'.heap.size, 0, none⟩) 12 12) (w'.alloc (.cells (ints (seenF [])).toArray 3)) := fun w' => by
    obtain ⟨i0, hi, hz0, hz1, hz2⟩ := info_parts info_int
    have h := run_make (P := Try.prog) w' 28 3 i0 (.int .i64 0) Try.underlying28 hi hz0 .i64 .i64 12 12 (by omega) (Int.le_refl _) (by rw [hz2]; omega) (by omega)
    rw [h, hz1]
    have e : madeCells (Value.int .i64 0).cells ((12 : Int).toNat * 1) = (ints (seenF [])).toArray := by
      show madeCells #[Value.int .i64 0] 12 = _
      rw [madeCells_one]; simp [ints, seenF]
    rw [e]
    rfl
  go_enter Try.func3, Try.ntmps3
  go_wp2_with fail
  refine KM.out.mono ?_
  rintro e w1 ⟨b, g, b', v, l, rfl, hM⟩
  go_wp2_with fail
  refine (awake_any _).mono ?_
  rintro e w2 ⟨rfl, hb2⟩
  have hB := hM.both.below hb2
  have O2 := bstep hM.below hb2
  have HL := Lib.hid hM.len
  have HOK := Lib.hid hM.ok
  clear hM hb2 KM
  go_wp2_with fail
  clear hmk
  have Bs : Blk (w2.alloc (.cells (ints (seenF [])).toArray 3)) w2.heap.size 3 (ints (seenF (doneTo l 0))).toArray := Blk.new _ _ _
  have O3 : Below w.heap.size w (w2.alloc (.cells (ints (seenF [])).toArray 3)) := O2.alloc O2.size _
  have M3 := hB.m.below ((Below.refl w2.heap.size w2).alloc (Nat.le_refl _) (.cells (ints (seenF [])).toArray 3))
  have hgb : b < w2.heap.size ∧ g < w2.heap.size := ⟨hB.m.hb.lt, hB.m.hg.lt⟩
  have hgs : w.heap.size ≤ w2.heap.size := O2.size
  clear O2
  generalize w2.alloc (.cells (ints (seenF [])).toArray 3) = W at *
  generalize w2.heap.size = s at *
  clear hB
  go_loopw [7, 9, 36, 34, 35] (fun i _ _ _ _ wr => ∃ k : Nat, k ≤ 4 ∧ i = .int .i64 k ∧ MapAt wr b g l ∧ Blk wr s 3 (ints (seenF (doneTo l k))).toArray ∧ Below w.heap.size w wr) (fun i _ _ _ _ _ => 4 - (intOf i).toNat)
  case atStart => exact ⟨0, by omega, rfl, M3, Bs, O3⟩
  case round =>
    obtain ⟨k, hk, rfl, M, B, O⟩ := hrel
    by_cases h : k < 4
    · have KL := Lib.hid (list_any M k)
      unfold mp at KL
      go_wp2_with fail
      refine KL.out.mono ?_
      rintro e w4 ⟨u, rfl, S4, hb4, F4⟩
      have M4 := M.below hb4
      have hs4 := B.lt
      have B4 := B.below hb4 hs4
      have O4 := bstep O hb4
      have hd4 : s ∉ ownB u := fun hx => by have := F4 s hx; omega
      clear M B O hb4 F4 KL hs4
      have hlen : (listF l k).length ≤ 12 := by have := listTo_length l k l.length; rw [HL.out] at this; unfold listF; rw [HL.out]; exact this
      have HD := Lib.hid (doneTo_mem l HL.out (k + 1))
      have HDL := Lib.hid (doneTo_length l HL.out (k + 1))
      obtain ⟨A4, c4, rfl⟩ := slc_len S4
      go_wp2_with fail
      go_loopw [9, 36] (fun _ i wr => ∃ j : Nat, j ≤ (listF l k).length ∧ i = .int .i64 j ∧ MapAt wr b g l ∧ Blk wr s 3 (ints (seenF (doneTo l k ++ (listF l k).take j))).toArray ∧ Slc wr 3 1 (.slice A4 (listF l k).length c4) (listF l k).length (ints (listF l k)) ∧ Below w.heap.size w wr) (fun _ i _ => (listF l k).length - (intOf i).toNat)
      case atStart => exact ⟨0, by omega, rfl, M4, by simpa using B4, S4, O4⟩
      case round =>
        obtain ⟨j, hj, rfl, M, B, S, O⟩ := hrel
        by_cases hjl : j < (listF l k).length
        · obtain ⟨gA, cap, rest, hv, BA, hcap, _⟩ := S.form (by omega) (by omega)
          simp only [Value.slice.injEq, true_and] at hv
          obtain ⟨rfl, rfl⟩ := hv
          have hsA : gA ≠ s := fun e => hd4 (by subst e; simp [ownB])
          have hxm : (listF l k)[j] ∈ doneTo l (k + 1) := by simp only [doneTo, List.mem_append]; exact .inr (List.getElem_mem hjl)
          have hxr := HD.out _ hxm
          have cx : wr.cell? ⟨gA, j, none⟩ = some (.int .i64 (listF l k)[j]) := BA.cell_some (by rw [List.getElem?_toArray, List.getElem?_append_left (by simpa using hjl), ints_get _ _ hjl])
          have HS := Lib.hid (show (listF l k).take (j + 1) = (listF l k).take j ++ [(listF l k)[j]] from List.take_succ_eq_append_getElem hjl)
          generalize (listF l k)[j] = x at *
          obtain ⟨X, rfl⟩ := Int.eq_ofNat_of_zero_le hxr.1
          have hX : X < 12 := by omega
          have hmem : ∀ y ∈ doneTo l k ++ (listF l k).take j, 0 ≤ y ∧ y < 12 := fun y hy => HD.out y (by
            simp only [doneTo, List.mem_append] at hy ⊢
            exact hy.imp id List.mem_of_mem_take)
          have hr := seen_range _ hmem X
          have hdl : (doneTo l k ++ (listF l k).take j).length ≤ 60 := by
            have := HDL.out
            simp only [doneTo, List.length_append, List.length_take] at this ⊢
            omega
          have hlen12 := seenF_length (doneTo l k ++ (listF l k).take j)
          have cs : wr.cell? ⟨s, X, none⟩ = some (.int .i64 ((seenF (doneTo l k ++ (listF l k).take j)).getD X 0)) := by
            refine B.cell_some ?_
            rw [List.getElem?_toArray, ints_get _ _ (by omega)]
            simp [List.getD, List.getElem?_eq_getElem (show X < (seenF (doneTo l k ++ (listF l k).take j)).length by omega)]
          have fs := B.frozen X (by simp; omega)
          have B5 := B.set_ X (.int .i64 ((seenF (doneTo l k ++ (listF l k).take j)).getD X 0 + 1))
          rw [List.setIfInBounds_toArray, Fm.ints_set] at B5
          have eb : (seenF (doneTo l k ++ (listF l k).take j)).set X ((seenF (doneTo l k ++ (listF l k).take j)).getD X 0 + 1) = seenF (doneTo l k ++ (listF l k).take (j + 1)) := by
            rw [HS.out, ← List.append_assoc, seenF_snoc]; rfl
          rw [eb] at B5
          have hr2 : 0 ≤ (seenF (doneTo l k ++ (listF l k).take j)).getD X 0 ∧ (seenF (doneTo l k ++ (listF l k).take j)).getD X 0 ≤ 60 := ⟨hr.1, by omega⟩
          clear eb hr hdl hmem hxm hlen12
          generalize (seenF (doneTo l k ++ (listF l k).take j)).getD X 0 = y at *
          have HB5 := Lib.hid B5
          clear B5
          go_wp2_with fail
          go_roundw
          case rel => exact ⟨j + 1, by omega, by go_num, M.only (S := [s]) ((Only.refl _ _).setCell (by simp) _) (by simp; omega) (by simp; omega), HB5.out, S.only (S := [s]) ((Only.refl _ _).setCell (by simp) _) (by simp [ownB]; exact hsA), O.setCell hgs _⟩
          case measure => simp [intOf]; omega
        · have hjj : j = (listF l k).length := by omega
          have hd2 : doneTo l k ++ (listF l k).take j = doneTo l (k + 1) := by rw [hjj, List.take_length]; rfl
          rw [hd2] at B
          clear hd2 hjj
          go_wp2_with fail
          go_roundw
          case rel => exact ⟨k + 1, by omega, by go_num, M, B, O⟩
          case measure => simp [intOf]; omega
    · have hk4 : k = 4 := by omega
      subst hk4
      have HO := Lib.hid (one_each l HL.out HOK.out)
      have hlen12 := seenF_length (doneTo l 4)
      have HC := Lib.hid (show ∀ i, i < 12 → wr.cell? ⟨s, i, none⟩ = some (.int .i64 1) from fun i hi => by
        refine B.cell_some ?_
        rw [List.getElem?_toArray, ints_get _ _ (by omega), ← HO.out i hi]
        simp [List.getD, List.getElem?_eq_getElem (show i < (seenF (doneTo l 4)).length by omega)])
      clear hlen12 HO B M
      go_wp2_with fail
      go_loop [10] (fun i => ∃ j : Nat, j ≤ 12 ∧ i = .int .i64 j) (fun i => 12 - (intOf i).toNat)
      case atStart => exact ⟨0, by omega, rfl⟩
      case round =>
        obtain ⟨j, hj, rfl⟩ := hrel
        by_cases hjl : j < 12
        · have cj := HC.out j hjl
          go_wp2_with fail
          go_round
          case rel => exact ⟨j + 1, by omega, by go_num⟩
          case measure => simp [intOf]; omega
        · go_wp2_with fail
          go_ret
          exact ⟨rfl, O⟩

set_option maxRecDepth 100000 in
theorem contract (H : Type) (enc : TypeId × Value → H) (W : World) (base : Nat) (args : Array Value) (ds gs : List (DataW H)) (before : List MemPlace)
    (hval0 : ∀ (j : Nat) t v, Try.f3.params[j]? = some t → args[j]? = some v → Value.okWide Try.prog W .any base t v)
    (hW : DataW.Whole enc Try.prog Try.f3.params.toList Rows.freemapOneSpec.vars false W args.toList ds gs before) :
    Calls Try.prog 3 args W fun e W' => ∃ v, e = .returned v ∧ Rows.freemapOneSpec.post enc Try.prog Try.f3 false true false false W args v W' := by
  have hval := hval0
  have hW' := hW
  obtain ⟨p, q, hA0, hV, rfl, hfz, hnd⟩ := hW
  have hA : DataW.TrodAll enc Try.prog W 0 (fun _ => true) true Try.f3.params.toList args.toList ds p := hA0
  have hlt : ∀ x ∈ p, x.block < W.heap.size := fun x hx => by simpa using hW'.lt x (List.mem_append_left _ hx)
  rw [Try.params3] at hA hval
  obtain ⟨v0, vs0, d0, ds0, p0, q0, hargs, rfl, rfl, h0, r0⟩ := trodAll_cons hA
  obtain ⟨rfl, rfl, rfl⟩ := trodAll_nil r0
  obtain rfl : args = #[v0] := by cases args; simp_all
  obtain ⟨rfl, rfl⟩ := trodVars_none hV
  refine (walk (hval 0 22 v0 rfl rfl) h0 ).mono fun e W1 ⟨he, hb⟩ => ?_
  subst he
  exact ⟨_, rfl, law_post laidOut hW' rfl (by kernel_rfl) (by rfl) Try.underlying4 rfl hb⟩

set_option maxRecDepth 100000 in
theorem lifted (os : Os) (started : os.Started) (H : Type) (enc : TypeId × Value → H) :
    ReturnsInHanded {} Try.checked os 3 .any (Rows.freemapOneSpec.pre6 enc Try.prog Try.f3 Rows.freemapOneRow.domain false) (Rows.freemapOneSpec.post enc Try.prog Try.f3 false true false false) := by
  refine returnsInHanded_of_change (C := Try.checked) own started (by kernel_rfl) Try.func3
    (ChangeSpec.witness6 (enc := enc) (C := Try.checked) false ⟨#[], #[.slice none 0 0], []⟩ 8 (by kernel_rfl) (by kernel_rfl) (by kernel_rfl) (by kernel_rfl)) ?_
  intro W base args ds gs before hval0 hW hcnd _
  exact contract H enc W base args ds gs before hval0 hW

theorem proved : Rows.FreemapOneSaid :=
  OpenClaim.holds_of_wide 3 Try.f3 rfl rfl rfl rfl rfl rfl rfl ⟨rfl, rfl, rfl, rfl, rfl⟩ rfl rfl rfl rfl rfl (by kernel_rfl) Try.func3 (by kernel_rfl)
    (of_decide_eq_true (by kernel_rfl)) (by unfold Func.isWrapper; first | (rw [if_pos (by decide +kernel)]; kernel_rfl) | (rw [if_neg (by decide +kernel)]; exact ⟨rfl, rfl⟩))
    (fun os started H enc _ => lifted os started H enc)
#print axioms proved
end Go.Proofs.Ytiiknbnaplpidab.freemapOne
