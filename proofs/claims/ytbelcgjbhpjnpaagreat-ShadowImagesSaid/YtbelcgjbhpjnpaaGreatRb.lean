/- roots: bytes read. -/
import Derived.Test.YtbelcgjbhpjnpaaGreatRa
import Derived.Deep.QuietTactic
set_option linter.all false
set_option linter.unusedVariables false
set_option linter.unusedSimpArgs false
set_option maxRecDepth 100000
namespace Go.Proofs.YtbelcgjbhpjnpaaGreat.Rt
open Go.RowKit Pk
attribute [local go_sem ↓] Go.wp_at_zero Go.wp_at_succ
def at2 (b : List UInt8) (k : Nat) : Nat := (b.getD k 0).toNat * 256 + (b.getD (k + 1) 0).toNat
theorem at2_lt (b : List UInt8) (k : Nat) : at2 b k < 65536 := by
 unfold at2
 have := (b.getD k 0).toNat_lt
 have := (b.getD (k + 1) 0).toNat_lt
 omega
theorem or8 (a b : Nat) (ha : a < 256) (hb : b < 256) : bits .or .i64 ((a : Int) * 256) (b : Int) = ((a * 256 + b : Nat) : Int) := by
 rw [bits_join .i64 32 (by decide) (fun n h0 h1 => IntWalk.i64_in n (by omega)) 8 _ _ (by omega) (by omega) (by omega) (by omega) (by omega) (by omega)]
 omega
theorem getD_size (s : ByteArray) (k : Nat) (h : k < s.size) : s.data.toList.getD k 0 = s[k] := by
 have : k < s.data.toList.length := by simpa using h
 simp [List.getD, List.getElem?_eq_getElem this]; rfl
set_option maxRecDepth 100000 in
set_option maxHeartbeats 1000000 in
theorem get1_any {w : World} {g : Nat} {T : ByteArray} (B : Blk w g 9 #[.string T]) (k : Nat) (hk : k + 1 < T.size) (hs : T.size ≤ 1000) :
  Calls Tryz.prog 196 #[.int .i64 (k : Int), .pointer (some ⟨g, 0, none⟩)] w fun e w' => e = .returned (.int .i64 (at2 T.data.toList k : Nat)) ∧ Below w.heap.size w w' := by
 have c0 : w.cell? ⟨g, 0, none⟩ = some (.string T) := B.cell_some (i := 0) rfl
 have h0 : k < T.size := by omega
 have b0 := T[k].toNat_lt
 have b1 := T[k + 1].toNat_lt
 have HV := Lib.hid (show bits .or .i64 ((T[k].toNat : Int) * 256) (T[k + 1].toNat : Int) = ((at2 T.data.toList k : Nat) : Int) from by
  rw [or8 _ _ (by omega) (by omega)]; unfold at2; rw [getD_size _ _ h0, getD_size _ _ hk])
 have e1 : IntKind.i64.wrap ((k : Int) + 1) = (k : Int) + 1 := IntWalk.i64_in _ (by omega)
 have e2 : (0 : Int) ≤ (k : Int) + 1 := by omega
 have e3 : ((k : Int) + 1).toNat = k + 1 := by omega
 have e7 : (k : Int) + 1 < (T.size : Int) := by omega
 have e8 : (k : Int) < (T.size : Int) := by omega
 have e4 : IntKind.i64.wrap (T[k].toNat : Int) = (T[k].toNat : Int) := IntWalk.i64_in _ (by omega)
 have e5 : IntKind.i64.wrap ((T[k].toNat : Int) * 256) = (T[k].toNat : Int) * 256 := IntWalk.i64_in _ (by omega)
 have e6 : IntKind.i64.wrap (T[k + 1].toNat : Int) = (T[k + 1].toNat : Int) := IntWalk.i64_in _ (by omega)
 clear B
 go_enter Tryz.func196, Tryz.ntmps196
 go_wp2_with fail
 go_quiet (fail)
 rw [HV.out]
 go_wp2_with fail
 go_ret
 exact ⟨rfl, Below_drewN (Below.refl _ _) _⟩
/-- a root by value, from a cell -/
theorem results_cell_one {fn : Func} {p : Tmp} {ty : TypeId} (h : fn.results = #[.cell p ty]) (tmps : Array Value) (P : Program) (w : World) :
  (results fn tmps).run P w = ((asAddr (tmps.getD p undef)).run P w).andThen fun a w₁ => (loadVar ty a).run P w₁ := by
 simp only [results, h]
 simp [Sem.run_bind, Result.andThen]
theorem ret_root2 {fn : Func} {p u : Tmp} {w : World} {g : Nat} {a b : Int} {A : Option Addr} {n c : Nat} {tmps : Array Value} (h : fn.results = #[.cell p 125, .tmp u]) (hp : tmps.getD p undef = .pointer (some ⟨g, 0, none⟩)) (B : Blk w g 125 #[.int .i64 a, .int .i64 b, .slice A n c]) :
  (results fn tmps).run Tryz.prog w = .ok (.tuple #[rootV a b A n c, tmps.getD u undef]) w := by
 have c0 := B.cell_some (i := 0) rfl
 have c1 := B.cell_some (i := 1) rfl
 have c2 := B.cell_some (i := 2) rfl
 rw [results_cell_tmp h, hp]
 clear h hp B
 unfold rootV
 go_simp
theorem ret_root {fn : Func} {p : Tmp} {w : World} {g : Nat} {a b : Int} {A : Option Addr} {n c : Nat} {tmps : Array Value} (h : fn.results = #[.cell p 125]) (hp : tmps.getD p undef = .pointer (some ⟨g, 0, none⟩)) (B : Blk w g 125 #[.int .i64 a, .int .i64 b, .slice A n c]) :
  (results fn tmps).run Tryz.prog w = .ok (rootV a b A n c) w := by
 have c0 := B.cell_some (i := 0) rfl
 have c1 := B.cell_some (i := 1) rfl
 have c2 := B.cell_some (i := 2) rfl
 rw [results_cell_one h, hp]
 clear h hp B
 unfold rootV
 go_simp
set_option maxRecDepth 100000 in
set_option maxHeartbeats 2000000 in
theorem ints_any {w : World} (A A' : Option Addr) (n c n' c' : Nat) (l l' : List Int) (h : IntsAt w A n l) (h' : IntsAt w A' n' l') (hn : n ≤ 1000000) (hn' : n' ≤ 1000000) (b : Bool) (hb : b = true ↔ l = l') :
  Calls Tryz.prog 111 #[.slice A n c, .slice A' n' c'] w fun r w' => r = .returned (.bool b) ∧ Below w.heap.size w w' := by
 have hl := Lib.hid h.1
 have hl' := Lib.hid h'.1
 have H0 := Lib.hid h
 have H1 := Lib.hid h'
 have HB := Lib.hid hb
 clear h h' hb
 by_cases hnn : n = n'
 ·subst hnn
  go_enter Tryz.func111, Tryz.ntmps111
  go_wp2_with fail
  go_loopw [5] (fun iv wr => ∃ i : Nat, i ≤ n ∧ iv = .int .i64 i ∧ Hid (∀ j : Nat, j < i → l[j]? = l'[j]?) ∧ Below w.heap.size w wr) (fun iv _ => n - (intOf iv).toNat)
  case atStart => exact ⟨0, Nat.zero_le _, rfl, Lib.hid (fun j h => absurd h (Nat.not_lt_zero _)), Below.refl _ _⟩
  case round =>
   obtain ⟨i, hi, rfl, EQ, O⟩ := hrel
   by_cases h : i < n
   ·obtain ⟨ad, x, rfl, hx, ck⟩ := (H0.out.below O).at i h
    obtain ⟨ad', x', rfl, hx', ck'⟩ := (H1.out.below O).at i h
    have OO := Lib.hid O
    have HE := Lib.hid (And.intro hx hx')
    have hii : (i : Int) < (n : Int) := by omega
    clear O hx hx'
    by_cases hd : x = x'
    ·subst hd
     have HQ := Lib.hid (show ∀ j : Nat, j < i + 1 → l[j]? = l'[j]? from fun j hj => by
      rcases Nat.lt_succ_iff_lt_or_eq.1 hj with h1 | rfl
      ·exact EQ.out j h1
      ·rw [HE.out.1, HE.out.2])
     go_wp2_with fail
     go_quiet (fail)
     go_wp2_with fail
     go_roundw
     case rel => exact ⟨i + 1, by omega, by go_num, HQ, Below_drewN OO.out _⟩
     case measure => simp [intOf]; omega
    ·have HD := Lib.hid (show l ≠ l' from fun hx => by
      have h1 := HE.out.1
      rw [hx, HE.out.2] at h1
      injection h1 with h1
      exact hd h1.symm)
     have hd2 : (x == x') = false := by simpa using hd
     go_wp2_with fail
     go_quiet (fail)
     go_wp2_with fail
     go_ret
     exact ⟨by
      cases b
      ·rfl
      ·exact absurd (HB.out.1 rfl) HD.out, Below_drewN OO.out _⟩
   ·obtain rfl : i = n := by omega
    have OO := Lib.hid O
    clear O
    go_wp2_with fail
    go_ret
    refine ⟨?_, OO.out⟩
    have : l = l' := by
     apply List.ext_getElem?
     intro j
     by_cases hj : j < i
     ·exact EQ.out j hj
     ·rw [List.getElem?_eq_none (by have := hl.out; omega), List.getElem?_eq_none (by have := hl'.out; omega)]
    rw [HB.out.2 this]; rfl
 ·have hd : (n : Int) ≠ (n' : Int) := by omega
  have hd2 : ((n : Int) == (n' : Int)) = false := by simpa using hd
  go_enter Tryz.func111, Tryz.ntmps111
  go_wp2_with fail
  go_ret
  refine ⟨?_, Below.refl _ _⟩
  cases b
  ·rfl
  ·exfalso
   have := HB.out.1 rfl
   have h1 := hl.out
   rw [this, hl'.out] at h1
   exact hnn h1.symm
end Go.Proofs.YtbelcgjbhpjnpaaGreat.Rt

/- roots: the bytes and what they say. -/
namespace Go.Proofs.YtbelcgjbhpjnpaaGreat.Rt
open Go.RowKit Pk
theorem beN_be8 (N : Nat) (h : N < 18446744073709551616) : beN (be8 N) = N := by
 have e : be8 N = [UInt8.ofNat (N / 72057594037927936), UInt8.ofNat (N / 281474976710656), UInt8.ofNat (N / 1099511627776), UInt8.ofNat (N / 4294967296), UInt8.ofNat (N / 16777216), UInt8.ofNat (N / 65536), UInt8.ofNat (N / 256), UInt8.ofNat (N / 1)] := rfl
 rw [e]
 simp only [beN, List.foldl_cons, List.foldl_nil, UInt8.toNat_ofNat']
 omega
theorem packI_length (ep : Int) : (packI ep).length = 8 := by unfold packI be8; rw [beK_length]
theorem packI_back (ep : Int) (h0 : 0 ≤ ep) (h1 : ep ≤ 1099511627776) : (beN (packI ep) : Int) - 9223372036854775808 = ep := by
 unfold packI
 rw [beN_be8 _ (by omega)]
 omega
theorem flat_two (l : List Nat) : (l.flatMap two8).length = 2 * l.length := by
 induction l with
 | nil => rfl
 | cons a l ih => rw [List.flatMap_cons, List.length_append, ih]; simp [two8]; omega
theorem midL_length (lg : Nat) (l : List Nat) (h : l.length ≤ 5) : (midL lg l).length = 44 := by
 unfold midL
 simp only [List.length_append, flat_two, List.length_replicate]
 simp [two8]; omega
theorem layF_length (m : List UInt8) : (Crc.layF m).length = m.length + 4 := by unfold Crc.layF; simp [Crc.fourL]
theorem drop2 (a : Nat) (r : List UInt8) : (two8 a ++ r).drop 2 = r := rfl
theorem drop4 (a b : Nat) (r : List UInt8) : (two8 a ++ (two8 b ++ r)).drop 4 = r := rfl
theorem at2_cons2 (n : Nat) (h : n < 65536) (r : List UInt8) : at2 (two8 n ++ r) 0 = n := by
 unfold at2 two8
 simp only [List.cons_append, List.nil_append, List.getD_cons_zero, List.getD_cons_succ, UInt8.toNat_ofNat']
 omega
theorem at2_drop (b : List UInt8) (j k : Nat) : at2 b (j + k) = at2 (b.drop j) k := by
 unfold at2
 simp only [List.getD_eq_getElem?_getD, List.getElem?_drop, Nat.add_assoc]
theorem at2_flat (l : List Nat) (r : List UInt8) (i : Nat) (h : i < l.length) (hs : ∀ x ∈ l, x < 65536) : at2 (l.flatMap two8 ++ r) (2 * i) = l[i] := by
 induction l generalizing i with
 | nil => simp at h
 | cons a l ih =>
  cases i with
  | zero =>
   rw [List.flatMap_cons, List.append_assoc, Nat.mul_zero, at2_cons2 a (hs a (by simp))]; rfl
  | succ i =>
   rw [show 2 * (i + 1) = 2 + 2 * i by omega, at2_drop]
   have hd : ((a :: l).flatMap two8 ++ r).drop 2 = l.flatMap two8 ++ r := by rw [List.flatMap_cons]; rfl
   rw [hd, ih i (by simpa using h) (fun x hx => hs x (List.mem_cons_of_mem _ hx))]
   rfl
/-- what bytes say -/
def decEp (v : List UInt8) : Int := (beN (v.take 8) : Int) - 9223372036854775808
def decM (v : List UInt8) : List UInt8 := (v.drop 12).take 44
def decP (v : List UInt8) : List Nat := (List.range (at2 (decM v) 2)).map fun i => at2 (decM v) (4 + 2 * i)
def goodR (v : List UInt8) : Prop := at2 (decM v) 2 ≤ 5 ∧ rightR (decEp v) (at2 (decM v) 0 : Nat) (natI (decP v)) ∧ rootL (decEp v) (at2 (decM v) 0) (decP v) = v
theorem rootL_take (ep : Int) (lg : Nat) (l : List Nat) : (rootL ep lg l).take 8 = packI ep := by
 unfold rootL
 rw [List.append_assoc, List.take_append_of_le_length (by rw [packI_length]; exact Nat.le_refl _), List.take_of_length_le (by rw [packI_length]; exact Nat.le_refl _)]
theorem rootL_drop8 (ep : Int) (lg : Nat) (l : List Nat) : (rootL ep lg l).drop 8 = Crc.layF (midL lg l) ++ packI ep := by
 unfold rootL
 rw [List.append_assoc, List.drop_append_of_le_length (by rw [packI_length]; exact Nat.le_refl _), List.drop_of_length_le (by rw [packI_length]; exact Nat.le_refl _), List.nil_append]
theorem rootL_mid (ep : Int) (lg : Nat) (l : List Nat) (h : l.length ≤ 5) : ((rootL ep lg l).drop 8).take 48 = Crc.layF (midL lg l) := by
 have h2 : (Crc.layF (midL lg l)).length = 48 := by rw [layF_length, midL_length _ _ h]
 rw [rootL_drop8, List.take_append_of_le_length (by omega), List.take_of_length_le (by omega)]
theorem rootL_last (ep : Int) (lg : Nat) (l : List Nat) (h : l.length ≤ 5) : (rootL ep lg l).drop 56 = packI ep := by
 have h2 : (Crc.layF (midL lg l)).length = 48 := by rw [layF_length, midL_length _ _ h]
 rw [show 56 = 8 + 48 by rfl, ← List.drop_drop, rootL_drop8, List.drop_append_of_le_length (by omega), List.drop_of_length_le (by omega), List.nil_append]
theorem rootL_length (ep : Int) (lg : Nat) (l : List Nat) (h : l.length ≤ 5) : (rootL ep lg l).length = 64 := by
 unfold rootL
 simp only [List.length_append, packI_length, layF_length, midL_length _ _ h]
theorem decM_root (ep : Int) (lg : Nat) (l : List Nat) (h : l.length ≤ 5) : decM (rootL ep lg l) = midL lg l := by
 unfold decM
 rw [show 12 = 8 + 4 by rfl, ← List.drop_drop, rootL_drop8]
 unfold Crc.layF
 have hm := midL_length lg l h
 have hf : ∀ n, (Crc.fourL n).length = 4 := fun n => by simp [Crc.fourL]
 rw [List.append_assoc, List.drop_append_of_le_length (by rw [hf]; exact Nat.le_refl _), List.drop_of_length_le (by rw [hf]; exact Nat.le_refl _), List.nil_append, List.take_append_of_le_length (by omega), List.take_of_length_le (by omega)]
set_option maxHeartbeats 1000000 in
/-- what was laid is read as it was -/
theorem dec_root (ep : Int) (lg : Nat) (l : List Nat) (hr : rightR ep lg (natI l)) : decEp (rootL ep lg l) = ep ∧ at2 (decM (rootL ep lg l)) 0 = lg ∧ at2 (decM (rootL ep lg l)) 2 = l.length ∧ decP (rootL ep lg l) = l := by
 have h5 : l.length ≤ 5 := by have := rightR_len hr; simpa [natI] using this
 have hep := hr.1
 have hlg : lg ≤ 512 := by have := hr.2.2.2.1; omega
 have hs : ∀ x ∈ l ++ List.replicate (5 - l.length) 0, x < 65536 := by
  intro x hx
  rcases List.mem_append.1 hx with hx | hx
  ·obtain ⟨i, hi, rfl⟩ := List.getElem_of_mem hx
   have h1 := hr.2.2.2.2.2 i ((l[i] : Nat) : Int) (by simp [natI]; exact ⟨l[i], List.getElem?_eq_getElem hi, rfl⟩)
   omega
  ·have := List.eq_of_mem_replicate hx; omega
 have h2 : at2 (midL lg l) 2 = l.length := by
  unfold midL
  rw [show (2 : Nat) = 2 + 0 by rfl, at2_drop, List.append_assoc, List.append_assoc, drop2]
  exact at2_cons2 _ (by omega) _
 have h4 : ∀ i, i < l.length → at2 (midL lg l) (4 + 2 * i) = l.getD i 0 := by
  intro i hi
  unfold midL
  rw [at2_drop, List.append_assoc, List.append_assoc, drop4]
  rw [at2_flat _ _ i (by rw [List.length_append]; omega) hs, List.getElem_append_left hi, List.getD_eq_getElem?_getD, List.getElem?_eq_getElem hi]; rfl
 refine ⟨?_, ?_, ?_, ?_⟩
 ·unfold decEp; rw [rootL_take]; exact packI_back ep (by omega) hr.2.1
 ·rw [decM_root _ _ _ h5]
  unfold midL
  rw [List.append_assoc, List.append_assoc]
  exact at2_cons2 lg (by omega) _
 ·rw [decM_root _ _ _ h5, h2]
 ·unfold decP
  rw [decM_root _ _ _ h5, h2]
  apply List.ext_getElem (by simp)
  intro i h1 h3
  simp only [List.length_map, List.length_range] at h1
  rw [List.getElem_map, List.getElem_range, h4 i h1, List.getD_eq_getElem?_getD, List.getElem?_eq_getElem h1]; rfl
theorem good_root (ep : Int) (lg : Nat) (l : List Nat) (hr : rightR ep lg (natI l)) : goodR (rootL ep lg l) := by
 obtain ⟨h1, h2, h3, h4⟩ := dec_root ep lg l hr
 have h5 : l.length ≤ 5 := by have := rightR_len hr; simpa [natI] using this
 exact ⟨by rw [h3]; exact h5, by rw [h1, h2, h4]; exact hr, by rw [h1, h2, h4]⟩
theorem good_crc {v : List UInt8} (h : goodR v) : Crc.fourL (Crc.sumF ((((v.drop 8).take 48)).drop 4)) = ((v.drop 8).take 48).take 4 ∧ v.take 8 = v.drop 56 := by
 have h5 : (decP v).length ≤ 5 := by unfold decP; simp; exact h.1
 have hv := h.2.2
 generalize decEp v = ep at hv
 generalize at2 (decM v) 0 = lg at hv
 generalize decP v = l at hv h5
 subst hv
 rw [rootL_mid _ _ _ h5, rootL_take, rootL_last _ _ _ h5]
 refine ⟨?_, rfl⟩
 unfold Crc.layF
 have hf : ∀ n, (Crc.fourL n).length = 4 := fun n => by simp [Crc.fourL]
 rw [List.drop_append_of_le_length (by rw [hf]; exact Nat.le_refl _), List.drop_of_length_le (by rw [hf]; exact Nat.le_refl _), List.nil_append, List.take_append_of_le_length (by rw [hf]; exact Nat.le_refl _), List.take_of_length_le (by rw [hf]; exact Nat.le_refl _)]
end Go.Proofs.YtbelcgjbhpjnpaaGreat.Rt

/- roots: Get. -/
namespace Go.Proofs.YtbelcgjbhpjnpaaGreat.Rt
open Go.RowKit Pk
attribute [local go_sem ↓] Go.wp_at_zero Go.wp_at_succ
theorem exl (u : ByteArray) (a b : Nat) : (u.extract a b).data.toList = (u.data.toList.drop a).take (b - a) := by
 rw [ByteArray.data_extract, Array.toList_extract, List.extract_eq_take_drop]
/-- the parts read so far -/
def arr (m : List UInt8) (k : Nat) : List Nat := (List.range 5).map fun i => if i < k then at2 m (4 + 2 * i) else 0
theorem toLb {a b : ByteArray} (h : a ≠ b) : (a.toList == b.toList) = false := by
 apply beq_eq_false_iff_ne.2
 intro e
 rw [bytes_toList, bytes_toList] at e
 exact h (ByteArray.ext (Array.toList_inj.1 e))
theorem IntsAt.only {w w' : World} {S : List Nat} {A : Option Addr} {n : Nat} {l : List Int} (h : IntsAt w A n l) (ho : Only S w w') (hA : ∀ ad, A = some ad → ad.block ∉ S) : IntsAt w' A n l := by
 refine ⟨h.1, fun k x hx => ?_⟩
 obtain ⟨ad, e1, h1⟩ := h.2 k x hx
 exact ⟨ad, e1, (ho.cell (by rw [block_of_add]; exact cell_lt h1) (by rw [block_of_add]; exact hA ad e1)).trans h1⟩
theorem arr_ints {W : World} {g : Nat} {v : List UInt8} {n : Nat} (B : Blk W g 185 (ivs (arr (decM v) 5)).toArray) (hn : at2 (decM v) 2 = n) (h5 : n ≤ 5) : IntsAt W (some ⟨g, 0, none⟩) n (natI (decP v)) := by
 have hl : (decP v).length = n := by unfold decP; simp [hn]
 refine ⟨by simpa [natI] using hl, fun k x hx => ⟨_, rfl, ?_⟩⟩
 have hk : k < n := by have := (List.getElem?_eq_some_iff.1 hx).1; simp only [natI, List.length_map, hl] at this; exact this
 have e : (⟨g, 0, none⟩ : Addr).add k = ⟨g, k, none⟩ := by unfold Addr.add; split <;> simp_all
 rw [e, B.cell]
 have hx2 : x = ((at2 (decM v) (4 + 2 * k) : Nat) : Int) := by
  unfold natI decP at hx
  rw [hn, List.getElem?_map, List.getElem?_map, List.getElem?_range hk] at hx
  simp at hx
  exact hx.symm
 subst hx2
 unfold ivs arr
 rw [List.getElem?_toArray, List.getElem?_map, List.getElem?_map, List.getElem?_range (by omega)]
 simp [show k < 5 by omega]
theorem arr_blk {W : World} {g : Nat} {v : List UInt8} {n : Nat} (B : Blk W g 185 (ivs (arr (decM v) 5)).toArray) (hn : at2 (decM v) 2 = n) (h5 : n ≤ 5) : ∃ rest, Blk W g 185 (ivs (decP v) ++ rest).toArray := by
 refine ⟨(ivs (arr (decM v) 5)).drop n, ?_⟩
 have e : ivs (decP v) = (ivs (arr (decM v) 5)).take n := by
  unfold ivs arr decP
  rw [hn]
  apply List.ext_getElem?
  intro k
  by_cases hk : k < n
  ·rw [List.getElem?_take_of_lt hk]
   simp only [List.getElem?_map]
   rw [List.getElem?_range hk, List.getElem?_range (by omega)]
   simp [show k < 5 by omega]
  ·rw [List.getElem?_eq_none (by simp; omega), List.getElem?_eq_none (by simp; omega)]
 rw [e, List.take_append_drop]
 exact B
/-- what Get tells of 64 bytes -/
def GotR (v : List UInt8) (w : World) (e : Ending) (w' : World) : Prop :=
 ((goodR v ∧ ∃ A c, e = .returned (.tuple #[rootV (decEp v) (at2 (decM v) 0 : Nat) A (at2 (decM v) 2) c, .bool true]) ∧ IntsAt w' A (at2 (decM v) 2) (natI (decP v)) ∧ at2 (decM v) 2 ≤ c ∧ (∀ ad, A = some ad → w.heap.size ≤ ad.block) ∧ ∃ g rest, A = some ⟨g, 0, none⟩ ∧ c = at2 (decM v) 2 ∧ Blk w' g 185 (ivs (decP v) ++ rest).toArray) ∨
  (¬ goodR v ∧ e = .returned (.tuple #[rootV 0 0 none 0 0, .bool false]))) ∧ Below w.heap.size w w'
set_option maxRecDepth 100000 in
set_option maxHeartbeats 2000000 in
theorem rget_len (u : ByteArray) (hz : u.size ≠ 64) (w : World) :
  Calls Tryz.prog 154 #[.string u] w fun e w' => e = .returned (.tuple #[rootV 0 0 none 0 0, .bool false]) ∧ Below w.heap.size w w' := by
 have B0 := Lib.hid (Blk.new w 125 #[.int .i64 0, .int .i64 0, .slice none 0 0])
 have O0 := Lib.hid (belowAlloc (Below.refl w.heap.size w) (.cells #[.int .i64 0, .int .i64 0, .slice none 0 0] 125))
 have h1 : ¬ (u.size : Int) = 64 := by omega
 have h2 : ((u.size : Int) == 64) = false := by simpa using h1
 unfold rootV
 go_enter Tryz.func154, Tryz.ntmps154
 go_wp2_with fail
 exact bodyPost_ret (ret_root2 rfl rfl B0.out) rfl ⟨rfl, O0.out⟩
set_option maxRecDepth 100000 in
set_option maxHeartbeats 4000000 in
theorem rget_any (u : ByteArray) (hz : u.size = 64) (w : World) :
  Calls Tryz.prog 154 #[.string u] w (GotR u.data.toList w) := by
 have B0 := Lib.hid (Blk.new w 125 #[.int .i64 0, .int .i64 0, .slice none 0 0])
 have O0 := Lib.hid (belowAlloc (Below.refl w.heap.size w) (.cells #[.int .i64 0, .int .i64 0, .slice none 0 0] 125))
 obtain ⟨v, hv⟩ : ∃ v, u.data.toList = v := ⟨_, rfl⟩
 have hvl : v.length = 64 := by rw [← hv]; simpa using hz
 have K0 := Lib.hid (fun w => readI_any u 0 w (by omega) (by omega))
 have K1 := Lib.hid (fun w => readI_any u 56 w (by omega) (by omega))
 rw [exl, hv] at K0 K1
 obtain ⟨T, hT⟩ : ∃ T, u.extract 8 56 = T := ⟨_, rfl⟩
 have hTl : T.data.toList = (v.drop 8).take 48 := by rw [← hT, exl, hv]
 have hTz : T.size = 48 := by rw [← hT, ByteArray.size_extract]; omega
 have hd0 : (beN ((v.drop 0).take (0 + 8 - 0)) : Int) - 9223372036854775808 = decEp v := rfl
 have hd1 : (v.drop 56).take (56 + 8 - 56) = v.drop 56 := List.take_of_length_le (by rw [List.length_drop]; omega)
 rw [hd0] at K0
 rw [hd1] at K1
 obtain ⟨ep, hep⟩ : ∃ ep, decEp v = ep := ⟨_, rfl⟩
 obtain ⟨ep2, hep2⟩ : ∃ ep2, (beN (v.drop 56) : Int) - 9223372036854775808 = ep2 := ⟨_, rfl⟩
 rw [hep] at K0
 rw [hep2] at K1
 have HG2 := Lib.hid (show goodR v → ep = ep2 from fun hg => by rw [← hep, ← hep2]; unfold decEp; rw [(good_crc hg).2])
 have HU := Lib.hid hv
 have HEP := Lib.hid hep
 rw [hv]
 have hzI : (u.size : Int) = 64 := by omega
 unfold GotR rootV
 rw [hep]
 by_cases hc : Crc.fourL (Crc.sumF (T.data.toList.drop 4)) = T.data.toList.take 4
 ·have KC := Lib.hid (fun w => Crc.cut_ok T w (by omega) (by unfold maxLen; omega) hc)
  obtain ⟨Tm, hTm⟩ : ∃ Tm, T.extract 4 T.size = Tm := ⟨_, rfl⟩
  have hTml : Tm.data.toList = decM v := by
   rw [← hTm, exl, hTl, hTz]
   unfold decM
   rw [List.drop_take, List.drop_drop, List.take_take]; rfl
  have hTmz : Tm.size = 44 := by rw [← hTm, ByteArray.size_extract]; omega
  rw [hTm] at KC
  have HTM := Lib.hid hTml
  clear hc hTl hep hep2 hd0 hd1 hTm hv
  go_enter Tryz.func154, Tryz.ntmps154
  go_wp2_with fail
  refine (K0.out _).mono ?_
  rintro e w1 ⟨rfl, hb1⟩
  have O1 := Lib.hid (bstep O0.out hb1)
  have B1 := Lib.hid (B0.out.below hb1 B0.out.lt)
  clear hb1
  go_wp2_with fail
  refine (K1.out _).mono ?_
  rintro e w2 ⟨rfl, hb2⟩
  have O2 := Lib.hid (bstep O1.out hb2)
  have B2 := Lib.hid (B1.out.below hb2 B1.out.lt)
  clear hb2
  go_wp2_with fail
  refine (KC.out _).mono ?_
  rintro e w3 ⟨rfl, hb3⟩
  have HB3 := Lib.hid hb3.size
  have a4 := belowAlloc (Below.refl w3.heap.size w3) (.cells #[.string Tm] 9)
  have O4 := Lib.hid (bstep (bstep O2.out hb3) a4)
  have B4 := Lib.hid ((B2.out.below hb3 B2.out.lt).alloc (.cells #[.string Tm] 9))
  have N4 := Lib.hid (Blk.new w3 9 #[.string Tm])
  clear hb3 a4 KC
  by_cases hee : ep = ep2
  ·subst hee
   clear HG2
   go_wp2_with fail
   generalize hw4 : (w3.alloc (.cells #[.string Tm] 9)) = w4 at *
   clear hw4
   have G0 := get1_any N4.out 0 (by omega) (by omega)
   refine G0.mono ?_
   rintro e w5 ⟨rfl, hb5⟩
   rw [HTM.out]
   have O5 := Lib.hid (bstep O4.out hb5)
   have B5 := Lib.hid (B4.out.below hb5 B4.out.lt)
   have N5 := Lib.hid (N4.out.below hb5 N4.out.lt)
   obtain ⟨lg, hlg⟩ : ∃ lg, at2 (decM v) 0 = lg := ⟨_, rfl⟩
   have hlgl := at2_lt (decM v) 0
   rw [hlg] at hlgl ⊢
   have HLG := Lib.hid hlg
   clear hb5 G0 hlg
   have a6 := belowAlloc (Below.refl w5.heap.size w5) (.cells #[.int .i64 ep, .int .i64 (lg : Int), .slice none 0 0] 125)
   have O6 := Lib.hid (bstep O5.out a6)
   have B6 := Lib.hid (B5.out.alloc (.cells #[.int .i64 ep, .int .i64 (lg : Int), .slice none 0 0] 125))
   have N6 := Lib.hid (N5.out.alloc (.cells #[.int .i64 ep, .int .i64 (lg : Int), .slice none 0 0] 125))
   have R6 := Lib.hid (Blk.new w5 125 #[.int .i64 ep, .int .i64 (lg : Int), .slice none 0 0])
   clear a6
   go_wp2_with fail
   generalize hw6 : (w5.alloc (.cells #[.int .i64 ep, .int .i64 (lg : Int), .slice none 0 0] 125)) = w6 at *
   clear hw6
   have G2 := get1_any N6.out 2 (by omega) (by omega)
   refine G2.mono ?_
   rintro e w7 ⟨rfl, hb7⟩
   rw [HTM.out]
   have O7 := Lib.hid (bstep O6.out hb7)
   have B7 := Lib.hid (B6.out.below hb7 B6.out.lt)
   have N7 := Lib.hid (N6.out.below hb7 N6.out.lt)
   have R7 := Lib.hid (R6.out.below hb7 R6.out.lt)
   obtain ⟨n, hn⟩ : ∃ n, at2 (decM v) 2 = n := ⟨_, rfl⟩
   rw [hn]
   have HN := Lib.hid hn
   clear hb7 G2 hn
   by_cases hn5 : n ≤ 5
   ·have hn5I : ¬ (5 : Int) < (n : Int) := by omega
    have A8 := Lib.hid (Blk.new w7 185 #[.int .i64 0, .int .i64 0, .int .i64 0, .int .i64 0, .int .i64 0])
    have a8 := belowAlloc (Below.refl w7.heap.size w7) (.cells #[.int .i64 0, .int .i64 0, .int .i64 0, .int .i64 0, .int .i64 0] 185)
    have O8 := Lib.hid (bstep O7.out a8)
    have B8 := Lib.hid (B7.out.alloc (.cells #[.int .i64 0, .int .i64 0, .int .i64 0, .int .i64 0, .int .i64 0] 185))
    have N8 := Lib.hid (N7.out.alloc (.cells #[.int .i64 0, .int .i64 0, .int .i64 0, .int .i64 0, .int .i64 0] 185))
    have R8 := Lib.hid (R7.out.alloc (.cells #[.int .i64 0, .int .i64 0, .int .i64 0, .int .i64 0, .int .i64 0] 185))
    clear a8
    have hlt1 := B7.out.lt
    have hlt2 := N7.out.lt
    have hlt3 := R7.out.lt
    have hlt4 : w3.heap.size < w5.heap.size := N5.out.lt
    have hlt5 : w.heap.size < w3.heap.size := by have := B2.out.lt; exact Nat.lt_of_lt_of_le this HB3.out
    go_wp2_with fail
    generalize hw8 : (w7.alloc (.cells #[.int .i64 0, .int .i64 0, .int .i64 0, .int .i64 0, .int .i64 0] 185)) = w8 at *
    clear hw8
    go_loopw [59] (fun iv wr => ∃ i : Nat, i ≤ 5 ∧ iv = .int .i64 (i : Int) ∧ Hid (Blk wr w7.heap.size 185 (ivs (arr (decM v) i)).toArray) ∧ Hid (Blk wr w.heap.size 125 #[.int .i64 0, .int .i64 0, .slice none 0 0]) ∧ Hid (Blk wr w3.heap.size 9 #[.string Tm]) ∧ Hid (Blk wr w5.heap.size 125 #[.int .i64 ep, .int .i64 (lg : Int), .slice none 0 0]) ∧ Hid (Below w.heap.size w wr)) (fun iv _ => 5 - (intOf iv).toNat)
    case atStart => exact ⟨0, by omega, rfl, A8, B8, N8, R8, O8⟩
    case round =>
     obtain ⟨i, hi, rfl, A9, B9, N9, R9, O9⟩ := hrel
     rcases (show i = 0 ∨ i = 1 ∨ i = 2 ∨ i = 3 ∨ i = 4 ∨ i = 5 from by omega) with rfl | rfl | rfl | rfl | rfl | rfl
     ·have G := get1_any N9.out 4 (by omega) (by omega)
      have GH := Lib.hid G
      rw [HTM.out] at GH
      obtain ⟨qk, hqk⟩ : ∃ qk, at2 (decM v) 4 = qk := ⟨_, rfl⟩
      have HQK := Lib.hid hqk
      rw [hqk] at GH
      clear G hqk
      go_wp2_with fail
      refine GH.out.mono ?_
      rintro e wa ⟨rfl, hba⟩
      have Aa := Lib.hid (A9.out.below hba A9.out.lt)
      have Ba := Lib.hid (B9.out.below hba B9.out.lt)
      have Na := Lib.hid (N9.out.below hba N9.out.lt)
      have Ra := Lib.hid (R9.out.below hba R9.out.lt)
      have Oa := Lib.hid (bstep O9.out hba)
      have fz : wa.frozen? ⟨w7.heap.size, 0, none⟩ = false := Aa.out.frozen 0 (by simp [ivs, arr])
      have cz : wa.cell? ⟨w7.heap.size, 0, none⟩ = some (.int .i64 0) := Aa.out.cell_some (i := 0) rfl
      have Ab := Lib.hid (show Blk (wa.setCell ⟨w7.heap.size, 0, none⟩ (.int .i64 (qk : Int))) w7.heap.size 185 (ivs (arr (decM v) (0 + 1))).toArray from by
       have := Aa.out.set_ 0 (.int .i64 (qk : Int))
       rw [← HQK.out] at this ⊢
       exact this)
      have Bb := Lib.hid (Ba.out.far (p := ⟨w7.heap.size, 0, none⟩) (by simp; omega) (.int .i64 (qk : Int)))
      have Nb := Lib.hid (Na.out.far (p := ⟨w7.heap.size, 0, none⟩) (by simp; omega) (.int .i64 (qk : Int)))
      have Rb := Lib.hid (Ra.out.far (p := ⟨w7.heap.size, 0, none⟩) (by simp; omega) (.int .i64 (qk : Int)))
      have Ob := Lib.hid (((Only.of_below (S := []) Oa.out).setCell (p := ⟨w7.heap.size, 0, none⟩) (fun h => absurd h (by simp; omega)) (.int .i64 (qk : Int))).below_nil)
      clear hba
      go_wp2_with fail
      go_roundw
      case rel => exact ⟨0 + 1, by omega, by first | rfl | go_num, Ab, Bb, Nb, Rb, Ob⟩
      case measure => simp [intOf]
     ·have G := get1_any N9.out 6 (by omega) (by omega)
      have GH := Lib.hid G
      rw [HTM.out] at GH
      obtain ⟨qk, hqk⟩ : ∃ qk, at2 (decM v) 6 = qk := ⟨_, rfl⟩
      have HQK := Lib.hid hqk
      rw [hqk] at GH
      clear G hqk
      go_wp2_with fail
      refine GH.out.mono ?_
      rintro e wa ⟨rfl, hba⟩
      have Aa := Lib.hid (A9.out.below hba A9.out.lt)
      have Ba := Lib.hid (B9.out.below hba B9.out.lt)
      have Na := Lib.hid (N9.out.below hba N9.out.lt)
      have Ra := Lib.hid (R9.out.below hba R9.out.lt)
      have Oa := Lib.hid (bstep O9.out hba)
      have fz : wa.frozen? ⟨w7.heap.size, 1, none⟩ = false := Aa.out.frozen 1 (by simp [ivs, arr])
      have cz : wa.cell? ⟨w7.heap.size, 1, none⟩ = some (.int .i64 0) := Aa.out.cell_some (i := 1) rfl
      have Ab := Lib.hid (show Blk (wa.setCell ⟨w7.heap.size, 1, none⟩ (.int .i64 (qk : Int))) w7.heap.size 185 (ivs (arr (decM v) (1 + 1))).toArray from by
       have := Aa.out.set_ 1 (.int .i64 (qk : Int))
       rw [← HQK.out] at this ⊢
       exact this)
      have Bb := Lib.hid (Ba.out.far (p := ⟨w7.heap.size, 1, none⟩) (by simp; omega) (.int .i64 (qk : Int)))
      have Nb := Lib.hid (Na.out.far (p := ⟨w7.heap.size, 1, none⟩) (by simp; omega) (.int .i64 (qk : Int)))
      have Rb := Lib.hid (Ra.out.far (p := ⟨w7.heap.size, 1, none⟩) (by simp; omega) (.int .i64 (qk : Int)))
      have Ob := Lib.hid (((Only.of_below (S := []) Oa.out).setCell (p := ⟨w7.heap.size, 1, none⟩) (fun h => absurd h (by simp; omega)) (.int .i64 (qk : Int))).below_nil)
      clear hba
      go_wp2_with fail
      go_roundw
      case rel => exact ⟨1 + 1, by omega, by first | rfl | go_num, Ab, Bb, Nb, Rb, Ob⟩
      case measure => simp [intOf]
     ·have G := get1_any N9.out 8 (by omega) (by omega)
      have GH := Lib.hid G
      rw [HTM.out] at GH
      obtain ⟨qk, hqk⟩ : ∃ qk, at2 (decM v) 8 = qk := ⟨_, rfl⟩
      have HQK := Lib.hid hqk
      rw [hqk] at GH
      clear G hqk
      go_wp2_with fail
      refine GH.out.mono ?_
      rintro e wa ⟨rfl, hba⟩
      have Aa := Lib.hid (A9.out.below hba A9.out.lt)
      have Ba := Lib.hid (B9.out.below hba B9.out.lt)
      have Na := Lib.hid (N9.out.below hba N9.out.lt)
      have Ra := Lib.hid (R9.out.below hba R9.out.lt)
      have Oa := Lib.hid (bstep O9.out hba)
      have fz : wa.frozen? ⟨w7.heap.size, 2, none⟩ = false := Aa.out.frozen 2 (by simp [ivs, arr])
      have cz : wa.cell? ⟨w7.heap.size, 2, none⟩ = some (.int .i64 0) := Aa.out.cell_some (i := 2) rfl
      have Ab := Lib.hid (show Blk (wa.setCell ⟨w7.heap.size, 2, none⟩ (.int .i64 (qk : Int))) w7.heap.size 185 (ivs (arr (decM v) (2 + 1))).toArray from by
       have := Aa.out.set_ 2 (.int .i64 (qk : Int))
       rw [← HQK.out] at this ⊢
       exact this)
      have Bb := Lib.hid (Ba.out.far (p := ⟨w7.heap.size, 2, none⟩) (by simp; omega) (.int .i64 (qk : Int)))
      have Nb := Lib.hid (Na.out.far (p := ⟨w7.heap.size, 2, none⟩) (by simp; omega) (.int .i64 (qk : Int)))
      have Rb := Lib.hid (Ra.out.far (p := ⟨w7.heap.size, 2, none⟩) (by simp; omega) (.int .i64 (qk : Int)))
      have Ob := Lib.hid (((Only.of_below (S := []) Oa.out).setCell (p := ⟨w7.heap.size, 2, none⟩) (fun h => absurd h (by simp; omega)) (.int .i64 (qk : Int))).below_nil)
      clear hba
      go_wp2_with fail
      go_roundw
      case rel => exact ⟨2 + 1, by omega, by first | rfl | go_num, Ab, Bb, Nb, Rb, Ob⟩
      case measure => simp [intOf]
     ·have G := get1_any N9.out 10 (by omega) (by omega)
      have GH := Lib.hid G
      rw [HTM.out] at GH
      obtain ⟨qk, hqk⟩ : ∃ qk, at2 (decM v) 10 = qk := ⟨_, rfl⟩
      have HQK := Lib.hid hqk
      rw [hqk] at GH
      clear G hqk
      go_wp2_with fail
      refine GH.out.mono ?_
      rintro e wa ⟨rfl, hba⟩
      have Aa := Lib.hid (A9.out.below hba A9.out.lt)
      have Ba := Lib.hid (B9.out.below hba B9.out.lt)
      have Na := Lib.hid (N9.out.below hba N9.out.lt)
      have Ra := Lib.hid (R9.out.below hba R9.out.lt)
      have Oa := Lib.hid (bstep O9.out hba)
      have fz : wa.frozen? ⟨w7.heap.size, 3, none⟩ = false := Aa.out.frozen 3 (by simp [ivs, arr])
      have cz : wa.cell? ⟨w7.heap.size, 3, none⟩ = some (.int .i64 0) := Aa.out.cell_some (i := 3) rfl
      have Ab := Lib.hid (show Blk (wa.setCell ⟨w7.heap.size, 3, none⟩ (.int .i64 (qk : Int))) w7.heap.size 185 (ivs (arr (decM v) (3 + 1))).toArray from by
       have := Aa.out.set_ 3 (.int .i64 (qk : Int))
       rw [← HQK.out] at this ⊢
       exact this)
      have Bb := Lib.hid (Ba.out.far (p := ⟨w7.heap.size, 3, none⟩) (by simp; omega) (.int .i64 (qk : Int)))
      have Nb := Lib.hid (Na.out.far (p := ⟨w7.heap.size, 3, none⟩) (by simp; omega) (.int .i64 (qk : Int)))
      have Rb := Lib.hid (Ra.out.far (p := ⟨w7.heap.size, 3, none⟩) (by simp; omega) (.int .i64 (qk : Int)))
      have Ob := Lib.hid (((Only.of_below (S := []) Oa.out).setCell (p := ⟨w7.heap.size, 3, none⟩) (fun h => absurd h (by simp; omega)) (.int .i64 (qk : Int))).below_nil)
      clear hba
      go_wp2_with fail
      go_roundw
      case rel => exact ⟨3 + 1, by omega, by first | rfl | go_num, Ab, Bb, Nb, Rb, Ob⟩
      case measure => simp [intOf]
     ·have G := get1_any N9.out 12 (by omega) (by omega)
      have GH := Lib.hid G
      rw [HTM.out] at GH
      obtain ⟨qk, hqk⟩ : ∃ qk, at2 (decM v) 12 = qk := ⟨_, rfl⟩
      have HQK := Lib.hid hqk
      rw [hqk] at GH
      clear G hqk
      go_wp2_with fail
      refine GH.out.mono ?_
      rintro e wa ⟨rfl, hba⟩
      have Aa := Lib.hid (A9.out.below hba A9.out.lt)
      have Ba := Lib.hid (B9.out.below hba B9.out.lt)
      have Na := Lib.hid (N9.out.below hba N9.out.lt)
      have Ra := Lib.hid (R9.out.below hba R9.out.lt)
      have Oa := Lib.hid (bstep O9.out hba)
      have fz : wa.frozen? ⟨w7.heap.size, 4, none⟩ = false := Aa.out.frozen 4 (by simp [ivs, arr])
      have cz : wa.cell? ⟨w7.heap.size, 4, none⟩ = some (.int .i64 0) := Aa.out.cell_some (i := 4) rfl
      have Ab := Lib.hid (show Blk (wa.setCell ⟨w7.heap.size, 4, none⟩ (.int .i64 (qk : Int))) w7.heap.size 185 (ivs (arr (decM v) (4 + 1))).toArray from by
       have := Aa.out.set_ 4 (.int .i64 (qk : Int))
       rw [← HQK.out] at this ⊢
       exact this)
      have Bb := Lib.hid (Ba.out.far (p := ⟨w7.heap.size, 4, none⟩) (by simp; omega) (.int .i64 (qk : Int)))
      have Nb := Lib.hid (Na.out.far (p := ⟨w7.heap.size, 4, none⟩) (by simp; omega) (.int .i64 (qk : Int)))
      have Rb := Lib.hid (Ra.out.far (p := ⟨w7.heap.size, 4, none⟩) (by simp; omega) (.int .i64 (qk : Int)))
      have Ob := Lib.hid (((Only.of_below (S := []) Oa.out).setCell (p := ⟨w7.heap.size, 4, none⟩) (fun h => absurd h (by simp; omega)) (.int .i64 (qk : Int))).below_nil)
      clear hba
      go_wp2_with fail
      go_roundw
      case rel => exact ⟨4 + 1, by omega, by first | rfl | go_num, Ab, Bb, Nb, Rb, Ob⟩
      case measure => simp [intOf]
     ·have r0 : wr.cell? ⟨w5.heap.size, 0, none⟩ = some (.int .i64 ep) := R9.out.cell_some (i := 0) rfl
      have r1 : wr.cell? ⟨w5.heap.size, 1, none⟩ = some (.int .i64 (lg : Int)) := R9.out.cell_some (i := 1) rfl
      have r2 : wr.cell? ⟨w5.heap.size, 2, none⟩ = some (.slice none 0 0) := R9.out.cell_some (i := 2) rfl
      have r3 : wr.frozen? ⟨w5.heap.size, 2, none⟩ = false := R9.out.frozen 2 (by simp)
      have RX := Lib.hid (show Blk (wr.setCell ⟨w5.heap.size, 2, none⟩ (.slice (some ⟨w7.heap.size, 0, none⟩) n n)) w5.heap.size 125 #[.int .i64 ep, .int .i64 (lg : Int), (.slice (some ⟨w7.heap.size, 0, none⟩) n n)] from R9.out.set_ 2 (.slice (some ⟨w7.heap.size, 0, none⟩) n n))
      have BX := Lib.hid (B9.out.far (p := ⟨w5.heap.size, 2, none⟩) (by simp; omega) (.slice (some ⟨w7.heap.size, 0, none⟩) n n))
      have AX := A9.out.far (p := ⟨w5.heap.size, 2, none⟩) (by simp; omega) (.slice (some ⟨w7.heap.size, 0, none⟩) n n)
      have OX := Lib.hid (((Only.of_below (S := []) O9.out).setCell (p := ⟨w5.heap.size, 2, none⟩) (fun h => absurd h (by simp; omega)) (.slice (some ⟨w7.heap.size, 0, none⟩) n n)).below_nil)
      have IX := Lib.hid (arr_ints AX HN.out hn5)
      have AB := Lib.hid (arr_blk AX HN.out hn5)
      have n1 : (n : Int) ≤ 5 := by omega
      have n2 : (0 : Int) ≤ (n : Int) := by omega
      clear AX
      obtain ⟨Ps, hPs⟩ : ∃ Ps, decP v = Ps := ⟨_, rfl⟩
      rw [hPs] at IX AB
      have HPS := Lib.hid hPs
      clear hPs
      by_cases hr : rightR ep (lg : Int) (natI Ps)
      ·have KP := Lib.hid (rput_yes (w := (wr.setCell ⟨w5.heap.size, 2, none⟩ (.slice (some ⟨w7.heap.size, 0, none⟩) n n))) ep lg (some ⟨w7.heap.size, 0, none⟩) n n Ps IX.out (Nat.le_refl _) hr)
       obtain ⟨RS, hRS⟩ : ∃ RS : ByteArray, (⟨(rootL ep lg Ps).toArray⟩ : ByteArray) = RS := ⟨_, rfl⟩
       rw [hRS] at KP
       unfold rootV at KP
       have HR := Lib.hid hr
       clear hr
       by_cases hu : RS = u
       ·have HGD := Lib.hid (show goodR v from ⟨by rw [HN.out]; exact hn5, by rw [HEP.out, HLG.out, HPS.out]; exact HR.out, by rw [HEP.out, HLG.out, HPS.out, ← HU.out, ← hu, ← hRS]⟩)
        subst hu
        clear hRS
        go_wp2_with fail
        generalize hwx : (wr.setCell ⟨w5.heap.size, 2, none⟩ (.slice (some ⟨w7.heap.size, 0, none⟩) n n)) = wx at *
        clear hwx r0 r1 r2 r3
        refine KP.out.mono ?_
        rintro e wp ⟨rfl, hbp⟩
        have Op := Lib.hid (bstep OX.out hbp)
        have Bp := Lib.hid (BX.out.below hbp BX.out.lt)
        have Rp := Lib.hid (RX.out.below hbp RX.out.lt)
        have Ip := Lib.hid (IX.out.below hbp)
        obtain ⟨rest, AB2⟩ := AB.out
        have Ap := Lib.hid (AB2.below hbp AB2.lt)
        clear AB2
        have r0 : wp.cell? ⟨w5.heap.size, 0, none⟩ = some (.int .i64 ep) := Rp.out.cell_some (i := 0) rfl
        have r1 : wp.cell? ⟨w5.heap.size, 1, none⟩ = some (.int .i64 (lg : Int)) := Rp.out.cell_some (i := 1) rfl
        have r2 : wp.cell? ⟨w5.heap.size, 2, none⟩ = some (.slice (some ⟨w7.heap.size, 0, none⟩) n n) := Rp.out.cell_some (i := 2) rfl
        have zf0 : wp.frozen? ⟨w.heap.size, 0, none⟩ = false := Bp.out.frozen 0 (by simp)
        have zc0 : wp.cell? ⟨w.heap.size, 0, none⟩ = some (.int .i64 0) := Bp.out.cell_some (i := 0) rfl
        have zf1 : wp.frozen? ⟨w.heap.size, 1, none⟩ = false := Bp.out.frozen 1 (by simp)
        have zc1 : wp.cell? ⟨w.heap.size, 1, none⟩ = some (.int .i64 0) := Bp.out.cell_some (i := 1) rfl
        have zf2 : wp.frozen? ⟨w.heap.size, 2, none⟩ = false := Bp.out.frozen 2 (by simp)
        have zc2 : wp.cell? ⟨w.heap.size, 2, none⟩ = some (.slice none 0 0) := Bp.out.cell_some (i := 2) rfl
        have ZB := Lib.hid (((Bp.out.set_ 0 (.int .i64 ep)).set_ 1 (.int .i64 (lg : Int))).set_ 2 (.slice (some ⟨w7.heap.size, 0, none⟩) n n))
        have ZO := Lib.hid (((((Only.of_below (S := []) Op.out).setCell (p := ⟨w.heap.size, 0, none⟩) (fun h => absurd h (by simp)) (.int .i64 ep)).setCell (p := ⟨w.heap.size, 1, none⟩) (fun h => absurd h (by simp)) (.int .i64 (lg : Int))).setCell (p := ⟨w.heap.size, 2, none⟩) (fun h => absurd h (by simp)) (.slice (some ⟨w7.heap.size, 0, none⟩) n n)).below_nil)
        have ZI := Lib.hid (Ip.out.only (((((Only.refl [w.heap.size] wp).setCell (p := ⟨w.heap.size, 0, none⟩) (fun _ => by simp) (.int .i64 ep)).setCell (p := ⟨w.heap.size, 1, none⟩) (fun _ => by simp) (.int .i64 (lg : Int))).setCell (p := ⟨w.heap.size, 2, none⟩) (fun _ => by simp) (.slice (some ⟨w7.heap.size, 0, none⟩) n n))) (fun ad h => by injection h with h; subst h; simp; omega))
        have ZA := Lib.hid (Ap.out.only (((((Only.refl [w.heap.size] wp).setCell (p := ⟨w.heap.size, 0, none⟩) (fun _ => by simp) (.int .i64 ep)).setCell (p := ⟨w.heap.size, 1, none⟩) (fun _ => by simp) (.int .i64 (lg : Int))).setCell (p := ⟨w.heap.size, 2, none⟩) (fun _ => by simp) (.slice (some ⟨w7.heap.size, 0, none⟩) n n))) (by simp; omega))
        clear hbp KP
        go_wp2_with fail
        exact bodyPost_ret (ret_root2 rfl rfl ZB.out) rfl ⟨.inl ⟨HGD.out, some ⟨w7.heap.size, 0, none⟩, n, by first | rfl | (rw [HLG.out, HN.out]; rfl), by rw [HN.out, HPS.out]; exact ZI.out, by rw [HN.out]; exact Nat.le_refl _, fun ad h => by injection h with h; subst h; exact O7.out.size, w7.heap.size, rest, rfl, by rw [HN.out], by rw [HPS.out]; exact ZA.out⟩, ZO.out⟩
       ·have HNG := Lib.hid (show ¬ goodR v from fun hg => hu (by
         have := hg.2.2
         rw [HEP.out, HLG.out, HPS.out, ← HU.out] at this
         rw [← hRS, this]))
        have q1 := toLb hu
        have q2 : ¬ RS.toList = u.toList := by simpa using q1
        clear hRS hu
        go_wp2_with fail
        generalize hwx : (wr.setCell ⟨w5.heap.size, 2, none⟩ (.slice (some ⟨w7.heap.size, 0, none⟩) n n)) = wx at *
        clear hwx r0 r1 r2 r3
        refine KP.out.mono ?_
        rintro e wp ⟨rfl, hbp⟩
        have Op := Lib.hid (bstep OX.out hbp)
        have Bp := Lib.hid (BX.out.below hbp BX.out.lt)
        clear hbp KP
        have zf0 : wp.frozen? ⟨w.heap.size, 0, none⟩ = false := Bp.out.frozen 0 (by simp)
        have zc0 : wp.cell? ⟨w.heap.size, 0, none⟩ = some (.int .i64 0) := Bp.out.cell_some (i := 0) rfl
        have zf1 : wp.frozen? ⟨w.heap.size, 1, none⟩ = false := Bp.out.frozen 1 (by simp)
        have zc1 : wp.cell? ⟨w.heap.size, 1, none⟩ = some (.int .i64 0) := Bp.out.cell_some (i := 1) rfl
        have zf2 : wp.frozen? ⟨w.heap.size, 2, none⟩ = false := Bp.out.frozen 2 (by simp)
        have zc2 : wp.cell? ⟨w.heap.size, 2, none⟩ = some (.slice none 0 0) := Bp.out.cell_some (i := 2) rfl
        have ZB := Lib.hid (((Bp.out.set_ 0 (.int .i64 0)).set_ 1 (.int .i64 0)).set_ 2 (.slice none 0 0))
        have ZO := Lib.hid (((((Only.of_below (S := []) Op.out).setCell (p := ⟨w.heap.size, 0, none⟩) (fun h => absurd h (by simp)) (.int .i64 0)).setCell (p := ⟨w.heap.size, 1, none⟩) (fun h => absurd h (by simp)) (.int .i64 0)).setCell (p := ⟨w.heap.size, 2, none⟩) (fun h => absurd h (by simp)) (.slice none 0 0)).below_nil)
        go_wp2_with fail
        exact bodyPost_ret (ret_root2 rfl rfl ZB.out) rfl ⟨.inr ⟨HNG.out, rfl⟩, ZO.out⟩
      ·have KP := Lib.hid (rput_no (w := (wr.setCell ⟨w5.heap.size, 2, none⟩ (.slice (some ⟨w7.heap.size, 0, none⟩) n n))) ep (lg : Int) (some ⟨w7.heap.size, 0, none⟩) n n (natI Ps) IX.out (by omega) (Nat.le_refl _) hr)
       unfold rootV at KP
       have HNG := Lib.hid (show ¬ goodR v from fun hg => hr (by
        have := hg.2.1
        rw [HEP.out, HLG.out, HPS.out] at this
        exact this))
       clear hr
       go_wp2_with fail
       generalize hwx : (wr.setCell ⟨w5.heap.size, 2, none⟩ (.slice (some ⟨w7.heap.size, 0, none⟩) n n)) = wx at *
       clear hwx r0 r1 r2 r3
       refine KP.out.mono ?_
       rintro e wp ⟨rfl, hbp⟩
       have Op := Lib.hid (bstep OX.out hbp)
       have Bp := Lib.hid (BX.out.below hbp BX.out.lt)
       clear hbp KP
       have zf0 : wp.frozen? ⟨w.heap.size, 0, none⟩ = false := Bp.out.frozen 0 (by simp)
       have zc0 : wp.cell? ⟨w.heap.size, 0, none⟩ = some (.int .i64 0) := Bp.out.cell_some (i := 0) rfl
       have zf1 : wp.frozen? ⟨w.heap.size, 1, none⟩ = false := Bp.out.frozen 1 (by simp)
       have zc1 : wp.cell? ⟨w.heap.size, 1, none⟩ = some (.int .i64 0) := Bp.out.cell_some (i := 1) rfl
       have zf2 : wp.frozen? ⟨w.heap.size, 2, none⟩ = false := Bp.out.frozen 2 (by simp)
       have zc2 : wp.cell? ⟨w.heap.size, 2, none⟩ = some (.slice none 0 0) := Bp.out.cell_some (i := 2) rfl
       have ZB := Lib.hid (((Bp.out.set_ 0 (.int .i64 0)).set_ 1 (.int .i64 0)).set_ 2 (.slice none 0 0))
       have ZO := Lib.hid (((((Only.of_below (S := []) Op.out).setCell (p := ⟨w.heap.size, 0, none⟩) (fun h => absurd h (by simp)) (.int .i64 0)).setCell (p := ⟨w.heap.size, 1, none⟩) (fun h => absurd h (by simp)) (.int .i64 0)).setCell (p := ⟨w.heap.size, 2, none⟩) (fun h => absurd h (by simp)) (.slice none 0 0)).below_nil)
       go_wp2_with fail
       exact bodyPost_ret (ret_root2 rfl rfl ZB.out) rfl ⟨.inr ⟨HNG.out, rfl⟩, ZO.out⟩
   ·have hn5I : (5 : Int) < (n : Int) := by omega
    have HNG := Lib.hid (show ¬ goodR v from fun hg => hn5 (by rw [← HN.out]; exact hg.1))
    clear hn5
    have zf0 : w7.frozen? ⟨w.heap.size, 0, none⟩ = false := B7.out.frozen 0 (by simp)
    have zc0 : w7.cell? ⟨w.heap.size, 0, none⟩ = some (.int .i64 0) := B7.out.cell_some (i := 0) rfl
    have zf1 : w7.frozen? ⟨w.heap.size, 1, none⟩ = false := B7.out.frozen 1 (by simp)
    have zc1 : w7.cell? ⟨w.heap.size, 1, none⟩ = some (.int .i64 0) := B7.out.cell_some (i := 1) rfl
    have zf2 : w7.frozen? ⟨w.heap.size, 2, none⟩ = false := B7.out.frozen 2 (by simp)
    have zc2 : w7.cell? ⟨w.heap.size, 2, none⟩ = some (.slice none 0 0) := B7.out.cell_some (i := 2) rfl
    have ZB := Lib.hid (((B7.out.set_ 0 (.int .i64 0)).set_ 1 (.int .i64 0)).set_ 2 (.slice none 0 0))
    have ZO := Lib.hid (((((Only.of_below (S := []) O7.out).setCell (p := ⟨w.heap.size, 0, none⟩) (fun h => absurd h (by simp)) (.int .i64 0)).setCell (p := ⟨w.heap.size, 1, none⟩) (fun h => absurd h (by simp)) (.int .i64 0)).setCell (p := ⟨w.heap.size, 2, none⟩) (fun h => absurd h (by simp)) (.slice none 0 0)).below_nil)
    go_wp2_with fail
    exact bodyPost_ret (ret_root2 rfl rfl ZB.out) rfl ⟨.inr ⟨HNG.out, rfl⟩, ZO.out⟩
  ·have he2 : (ep == ep2) = false := by simpa using hee
   have HNG := Lib.hid (show ¬ goodR v from fun hg => hee (HG2.out hg))
   clear HG2
   generalize hw4 : (w3.alloc (.cells #[.string Tm] 9)) = w4 at *
   have zf0 : w4.frozen? ⟨w.heap.size, 0, none⟩ = false := B4.out.frozen 0 (by simp)
   have zc0 : w4.cell? ⟨w.heap.size, 0, none⟩ = some (.int .i64 0) := B4.out.cell_some (i := 0) rfl
   have zf1 : w4.frozen? ⟨w.heap.size, 1, none⟩ = false := B4.out.frozen 1 (by simp)
   have zc1 : w4.cell? ⟨w.heap.size, 1, none⟩ = some (.int .i64 0) := B4.out.cell_some (i := 1) rfl
   have zf2 : w4.frozen? ⟨w.heap.size, 2, none⟩ = false := B4.out.frozen 2 (by simp)
   have zc2 : w4.cell? ⟨w.heap.size, 2, none⟩ = some (.slice none 0 0) := B4.out.cell_some (i := 2) rfl
   have ZB := Lib.hid (((B4.out.set_ 0 (.int .i64 0)).set_ 1 (.int .i64 0)).set_ 2 (.slice none 0 0))
   have ZO := Lib.hid (((((Only.of_below (S := []) O4.out).setCell (p := ⟨w.heap.size, 0, none⟩) (fun h => absurd h (by simp)) (.int .i64 0)).setCell (p := ⟨w.heap.size, 1, none⟩) (fun h => absurd h (by simp)) (.int .i64 0)).setCell (p := ⟨w.heap.size, 2, none⟩) (fun h => absurd h (by simp)) (.slice none 0 0)).below_nil)
   go_wp2_with fail
   exact bodyPost_ret (ret_root2 rfl rfl ZB.out) rfl ⟨.inr ⟨HNG.out, rfl⟩, ZO.out⟩
 ·have KC := Lib.hid (fun w => Crc.cut_corrupt T w (by omega) (by unfold maxLen; omega) hc)
  have HNG := Lib.hid (show ¬ goodR v from fun hg => hc (by rw [hTl]; exact (good_crc hg).1))
  clear hc hTl hep hep2 hd0 hd1 hv
  go_enter Tryz.func154, Tryz.ntmps154
  go_wp2_with fail
  refine (K0.out _).mono ?_
  rintro e w1 ⟨rfl, hb1⟩
  have O1 := Lib.hid (bstep O0.out hb1)
  have B1 := Lib.hid (B0.out.below hb1 B0.out.lt)
  clear hb1
  go_wp2_with fail
  refine (K1.out _).mono ?_
  rintro e w2 ⟨rfl, hb2⟩
  have O2 := Lib.hid (bstep O1.out hb2)
  have B2 := Lib.hid (B1.out.below hb2 B1.out.lt)
  clear hb2
  go_wp2_with fail
  refine (KC.out _).mono ?_
  rintro e w3 ⟨rfl, hb3⟩
  have a4 := belowAlloc (Below.refl w3.heap.size w3) (.cells #[.string ⟨#[]⟩] 9)
  have O4 := Lib.hid (bstep (bstep O2.out hb3) a4)
  have B4 := Lib.hid ((B2.out.below hb3 B2.out.lt).alloc (.cells #[.string ⟨#[]⟩] 9))
  clear hb3 a4 KC
  by_cases hee : ep = ep2
  ·subst hee
   have zf0 : (w3.alloc (.cells #[.string ⟨#[]⟩] 9)).frozen? ⟨w.heap.size, 0, none⟩ = false := B4.out.frozen 0 (by simp)
   have zc0 : (w3.alloc (.cells #[.string ⟨#[]⟩] 9)).cell? ⟨w.heap.size, 0, none⟩ = some (.int .i64 0) := B4.out.cell_some (i := 0) rfl
   have zf1 : (w3.alloc (.cells #[.string ⟨#[]⟩] 9)).frozen? ⟨w.heap.size, 1, none⟩ = false := B4.out.frozen 1 (by simp)
   have zc1 : (w3.alloc (.cells #[.string ⟨#[]⟩] 9)).cell? ⟨w.heap.size, 1, none⟩ = some (.int .i64 0) := B4.out.cell_some (i := 1) rfl
   have zf2 : (w3.alloc (.cells #[.string ⟨#[]⟩] 9)).frozen? ⟨w.heap.size, 2, none⟩ = false := B4.out.frozen 2 (by simp)
   have zc2 : (w3.alloc (.cells #[.string ⟨#[]⟩] 9)).cell? ⟨w.heap.size, 2, none⟩ = some (.slice none 0 0) := B4.out.cell_some (i := 2) rfl
   have ZB := Lib.hid (((B4.out.set_ 0 (.int .i64 0)).set_ 1 (.int .i64 0)).set_ 2 (.slice none 0 0))
   have ZO := Lib.hid (((((Only.of_below (S := []) O4.out).setCell (p := ⟨w.heap.size, 0, none⟩) (fun h => absurd h (by simp)) (.int .i64 0)).setCell (p := ⟨w.heap.size, 1, none⟩) (fun h => absurd h (by simp)) (.int .i64 0)).setCell (p := ⟨w.heap.size, 2, none⟩) (fun h => absurd h (by simp)) (.slice none 0 0)).below_nil)
   go_wp2_with fail
   exact bodyPost_ret (ret_root2 rfl rfl ZB.out) rfl ⟨.inr ⟨HNG.out, rfl⟩, ZO.out⟩
  ·have he2 : (ep == ep2) = false := by simpa using hee
   have zf0 : (w3.alloc (.cells #[.string ⟨#[]⟩] 9)).frozen? ⟨w.heap.size, 0, none⟩ = false := B4.out.frozen 0 (by simp)
   have zc0 : (w3.alloc (.cells #[.string ⟨#[]⟩] 9)).cell? ⟨w.heap.size, 0, none⟩ = some (.int .i64 0) := B4.out.cell_some (i := 0) rfl
   have zf1 : (w3.alloc (.cells #[.string ⟨#[]⟩] 9)).frozen? ⟨w.heap.size, 1, none⟩ = false := B4.out.frozen 1 (by simp)
   have zc1 : (w3.alloc (.cells #[.string ⟨#[]⟩] 9)).cell? ⟨w.heap.size, 1, none⟩ = some (.int .i64 0) := B4.out.cell_some (i := 1) rfl
   have zf2 : (w3.alloc (.cells #[.string ⟨#[]⟩] 9)).frozen? ⟨w.heap.size, 2, none⟩ = false := B4.out.frozen 2 (by simp)
   have zc2 : (w3.alloc (.cells #[.string ⟨#[]⟩] 9)).cell? ⟨w.heap.size, 2, none⟩ = some (.slice none 0 0) := B4.out.cell_some (i := 2) rfl
   have ZB := Lib.hid (((B4.out.set_ 0 (.int .i64 0)).set_ 1 (.int .i64 0)).set_ 2 (.slice none 0 0))
   have ZO := Lib.hid (((((Only.of_below (S := []) O4.out).setCell (p := ⟨w.heap.size, 0, none⟩) (fun h => absurd h (by simp)) (.int .i64 0)).setCell (p := ⟨w.heap.size, 1, none⟩) (fun h => absurd h (by simp)) (.int .i64 0)).setCell (p := ⟨w.heap.size, 2, none⟩) (fun h => absurd h (by simp)) (.slice none 0 0)).below_nil)
   go_wp2_with fail
   exact bodyPost_ret (ret_root2 rfl rfl ZB.out) rfl ⟨.inr ⟨HNG.out, rfl⟩, ZO.out⟩
end Go.Proofs.YtbelcgjbhpjnpaaGreat.Rt

/- roots: Newer, awake. -/
namespace Go.Proofs.YtbelcgjbhpjnpaaGreat.Rt
open Go.RowKit Pk
attribute [local go_sem ↓] Go.wp_at_zero Go.wp_at_succ
theorem results_cell_three {fn : Func} {p u q : Tmp} {ty : TypeId} (h : fn.results = #[.cell p ty, .tmp u, .tmp q]) (tmps : Array Value) (P : Program) (w : World) :
  (results fn tmps).run P w = ((asAddr (tmps.getD p undef)).run P w).andThen fun a w₁ => ((loadVar ty a).run P w₁).andThen fun v w₂ => .ok (.tuple #[v, tmps.getD u undef, tmps.getD q undef]) w₂ := by
 simp only [results, h]
 simp [Sem.run_bind, Result.andThen]
theorem ret_root3 {fn : Func} {p u q : Tmp} {w : World} {g : Nat} {a b : Int} {A : Option Addr} {n c : Nat} {tmps : Array Value} (h : fn.results = #[.cell p 125, .tmp u, .tmp q]) (hp : tmps.getD p undef = .pointer (some ⟨g, 0, none⟩)) (B : Blk w g 125 #[.int .i64 a, .int .i64 b, .slice A n c]) :
  (results fn tmps).run Tryz.prog w = .ok (.tuple #[rootV a b A n c, tmps.getD u undef, tmps.getD q undef]) w := by
 have c0 := B.cell_some (i := 0) rfl
 have c1 := B.cell_some (i := 1) rfl
 have c2 := B.cell_some (i := 2) rfl
 rw [results_cell_three h, hp]
 clear h hp B
 unfold rootV
 go_simp
set_option maxRecDepth 100000 in
set_option maxHeartbeats 2000000 in
theorem newer_second (a b : ByteArray) (ha : a.size ≠ 64) (hb : b.size = 64) (hg : goodR b.data.toList) (w : World) :
  Calls Tryz.prog 92 #[.string a, .string b] w fun e w' => (∃ ep lg A n c, e = .returned (.tuple #[rootV ep lg A n c, .int .i64 1, .bool true])) ∧ Below w.heap.size w w' := by
 have B0 := Lib.hid (Blk.new w 125 #[.int .i64 0, .int .i64 0, .slice none 0 0])
 have O0 := Lib.hid (belowAlloc (Below.refl w.heap.size w) (.cells #[.int .i64 0, .int .i64 0, .slice none 0 0] 125))
 have K0 := Lib.hid (fun w => rget_len a ha w)
 have K1 := Lib.hid (fun w => rget_any b hb w)
 have HG := Lib.hid hg
 clear hg
 unfold rootV at *
 go_enter Tryz.func92, Tryz.ntmps92
 go_wp2_with fail
 refine (K0.out _).mono ?_
 rintro e w1 ⟨rfl, hb1⟩
 have a2 := belowAlloc (Below.refl w1.heap.size w1) (.cells #[.int .i64 0, .int .i64 0, .slice none 0 0] 125)
 have O2 := Lib.hid (bstep (bstep O0.out hb1) a2)
 have B2 := Lib.hid ((B0.out.below hb1 B0.out.lt).alloc (.cells #[.int .i64 0, .int .i64 0, .slice none 0 0] 125))
 have X2 := Lib.hid (Blk.new w1 125 #[.int .i64 0, .int .i64 0, .slice none 0 0])
 clear hb1 a2
 go_wp2_with fail
 generalize hw2 : (w1.alloc (.cells #[.int .i64 0, .int .i64 0, .slice none 0 0] 125)) = w2 at *
 clear hw2
 refine (K1.out _).mono ?_
 rintro e w3 ⟨hx, hb3⟩
 obtain ⟨ep, lg, A, n, c, rfl⟩ : ∃ ep lg A n c, e = .returned (.tuple #[.agg #[.int .i64 ep, .int .i64 lg, .slice A n c], .bool true]) := by
  rcases hx with ⟨_, A, c, rfl, _⟩ | ⟨h0, _⟩
  ·exact ⟨_, _, _, _, _, rfl⟩
  ·exact absurd HG.out h0
 have a4 := belowAlloc (Below.refl w3.heap.size w3) (.cells #[.int .i64 ep, .int .i64 lg, .slice A n c] 125)
 have O4 := Lib.hid (bstep (bstep O2.out hb3) a4)
 have B4 := Lib.hid ((B2.out.below hb3 B2.out.lt).alloc (.cells #[.int .i64 ep, .int .i64 lg, .slice A n c] 125))
 have X4 := Lib.hid ((X2.out.below hb3 X2.out.lt).alloc (.cells #[.int .i64 ep, .int .i64 lg, .slice A n c] 125))
 have Y4 := Lib.hid (Blk.new w3 125 #[.int .i64 ep, .int .i64 lg, .slice A n c])
 have zf0 : (w3.alloc (.cells #[.int .i64 ep, .int .i64 lg, .slice A n c] 125)).frozen? ⟨w.heap.size, 0, none⟩ = false := B4.out.frozen 0 (by simp)
 have zf1 : (w3.alloc (.cells #[.int .i64 ep, .int .i64 lg, .slice A n c] 125)).frozen? ⟨w.heap.size, 1, none⟩ = false := B4.out.frozen 1 (by simp)
 have zf2 : (w3.alloc (.cells #[.int .i64 ep, .int .i64 lg, .slice A n c] 125)).frozen? ⟨w.heap.size, 2, none⟩ = false := B4.out.frozen 2 (by simp)
 have zc0 : (w3.alloc (.cells #[.int .i64 ep, .int .i64 lg, .slice A n c] 125)).cell? ⟨w.heap.size, 0, none⟩ = some (.int .i64 0) := B4.out.cell_some (i := 0) rfl
 have zc1 : (w3.alloc (.cells #[.int .i64 ep, .int .i64 lg, .slice A n c] 125)).cell? ⟨w.heap.size, 1, none⟩ = some (.int .i64 0) := B4.out.cell_some (i := 1) rfl
 have zc2 : (w3.alloc (.cells #[.int .i64 ep, .int .i64 lg, .slice A n c] 125)).cell? ⟨w.heap.size, 2, none⟩ = some (.slice none 0 0) := B4.out.cell_some (i := 2) rfl
 have ZB := Lib.hid (((B4.out.set_ 0 (.int .i64 ep)).set_ 1 (.int .i64 lg)).set_ 2 (.slice A n c))
 have ZO := Lib.hid (((((Only.of_below (S := []) O4.out).setCell (p := ⟨w.heap.size, 0, none⟩) (fun h => absurd h (by simp)) (.int .i64 ep)).setCell (p := ⟨w.heap.size, 1, none⟩) (fun h => absurd h (by simp)) (.int .i64 lg)).setCell (p := ⟨w.heap.size, 2, none⟩) (fun h => absurd h (by simp)) (.slice A n c)).below_nil)
 clear hb3 a4 hx
 go_wp2_with fail
 exact bodyPost_ret (ret_root3 rfl rfl ZB.out) rfl ⟨⟨_, _, _, _, _, rfl⟩, ZO.out⟩
theorem right0 : rightR 3 117 (natI [5, 9]) := by
 refine ⟨by omega, by omega, by omega, by omega, by decide, ?_⟩
 intro i x hx
 have hi : i < 2 := (List.getElem?_eq_some_iff.1 hx).1
 rcases (show i = 0 ∨ i = 1 by omega) with rfl | rfl
 ·simp [natI] at hx; subst hx; simp [natI]
 ·simp [natI] at hx; subst hx; simp [natI]
end Go.Proofs.YtbelcgjbhpjnpaaGreat.Rt

/- roots: a table's parts. -/
namespace Go.Proofs.YtbelcgjbhpjnpaaGreat.Rt
open Go.RowKit Pk
attribute [local go_sem ↓] Go.wp_at_zero Go.wp_at_succ
/-- a page's number in a table, as it is laid -/
def num1 (x : Int) : Nat := (max x (-1) + 1).toNat
def partF (l : List Int) : List UInt8 := (l.map num1).flatMap two8
def segF (l : List Int) (p : Nat) : List Int := (l.drop (116 * p)).take 116
theorem segF_length (l : List Int) (p : Nat) : (segF l p).length = min 116 (l.length - 116 * p) := by simp [segF]
theorem segF_get (l : List Int) (p i : Nat) (h : i < 116) : (segF l p)[i]? = l[116 * p + i]? := by
 unfold segF
 rw [List.getElem?_take, if_pos h, List.getElem?_drop]
/-- one number more -/
theorem part_step {w : World} {ad : Addr} {n m p i : Nat} {l : List Int} (h : IntsAt w (some ad) n l) (hm1 : m ≤ 116) (hm2 : 116 * p + m ≤ n) (hi : i < m) :
  ∃ x, w.cell? ((ad.add (p * 116)).add i) = some (.int .i64 x) ∧ (segF l p).take (i + 1) = (segF l p).take i ++ [x] ∧ partF ((segF l p).take (i + 1)) = partF ((segF l p).take i) ++ two8 (num1 x) ∧ x ∈ segF l p := by
 obtain ⟨ad', x, e, hx, ck⟩ := h.at (116 * p + i) (by omega)
 cases e
 have hl := h.1
 have hg : (segF l p)[i]? = some x := by rw [segF_get _ _ _ (by omega)]; exact hx
 obtain ⟨hlt, hge⟩ := List.getElem?_eq_some_iff.1 hg
 have ht : (segF l p).take (i + 1) = (segF l p).take i ++ [x] := by rw [List.take_succ_eq_append_getElem hlt, hge]
 refine ⟨x, ?_, ht, ?_, List.mem_of_getElem? hg⟩
 ·rw [add_of_add, show p * 116 + i = 116 * p + i by omega]; exact ck
 ·rw [ht]; unfold partF; rw [List.map_append, List.flatMap_append]; simp
set_option maxRecDepth 100000 in
set_option maxHeartbeats 4000000 in
theorem putpart_any {w : World} (A : Option Addr) (n c : Nat) (l : List Int) (h : IntsAt w A n l) (hn : n ≤ 1000000) (hnc : n ≤ c) (p : Nat) (hp : 116 * p < n) :
  Calls Tryz.prog 166 #[.slice A n c, .int .i64 (p : Nat)] w fun e w' => (((∃ x ∈ segF l p, 1023 < x) ∧ e = .returned (.tuple #[.string ⟨#[]⟩, .int .i64 2])) ∨ ((∀ x ∈ segF l p, x ≤ 1023) ∧ e = .returned (.tuple #[.string ⟨(partF (segF l p)).toArray⟩, .int .i64 0]))) ∧ Below w.heap.size w w' := by
 have hneed : (p : Int) < needF n := by unfold needF; omega
 have h1 : ¬ (p : Int) < 0 := by omega
 have h2 : ¬ (p : Int) ≥ needF n := by omega
 have h2b : ¬ needF n ≤ (p : Int) := by omega
 have KN := Lib.hid (need_any (n : Int) (by omega) w)
 have HL := Lib.hid h.1
 have HI := Lib.hid h
 obtain ⟨ad, x0, rfl, _, _⟩ := h.at 0 (by omega)
 obtain ⟨m, hm⟩ : ∃ m, m = min 116 (n - 116 * p) := ⟨_, rfl⟩
 have HM := Lib.hid hm
 have hm1 : m ≤ 116 := by omega
 have hm2 : 116 * p + m ≤ n := by omega
 clear h hm
 generalize needF n = nd at *
 have e1 : IntKind.i64.wrap ((p : Int) * 116) = (p : Int) * 116 := IntWalk.i64_in _ (by omega)
 have e2 : IntKind.i64.wrap ((p : Int) + 1) = (p : Int) + 1 := IntWalk.i64_in _ (by omega)
 have e3 : IntKind.i64.wrap (((p : Int) + 1) * 116) = ((p : Int) + 1) * 116 := IntWalk.i64_in _ (by omega)
 go_enter Tryz.func166, Tryz.ntmps166
 go_wp2_with fail
 refine KN.out.mono ?_
 rintro e w1 ⟨rfl, hb1⟩
 have O1 := Lib.hid hb1
 clear hb1 KN
 go_wp2_with fail
 ·rw [show n - p * 116 = m from by have := HM.out; omega]
  go_loopw [6, 29] (fun bv iv wr => ∃ i : Nat, i ≤ m ∧ iv = .int .i64 i ∧ Slc wr 5 1 bv (2 * i) (bvs (partF ((segF l p).take i))) ∧ Hid (∀ x ∈ (segF l p).take i, x ≤ 1023) ∧ Below w.heap.size w wr ∧ Hid (∀ g ∈ ownB bv, w.heap.size ≤ g)) (fun _ iv _ => m - (intOf iv).toNat)
  case atStart => exact ⟨0, Nat.zero_le _, rfl, Slc.nil _ _ _, Lib.hid (by simp), O1.out, Lib.hid (by simp [ownB])⟩
  case round =>
   obtain ⟨i, hi, rfl, S, GD, O, F⟩ := hrel
   by_cases h' : i < m
   ·obtain ⟨x, ck, ht, hp2, hmem⟩ := part_step (HI.out.below O) hm1 hm2 h'
    have OO := Lib.hid O
    have HT := Lib.hid ht
    have HP := Lib.hid hp2
    have HX := Lib.hid hmem
    clear O ht hp2 hmem
    have hiI : (i : Int) < (m : Int) := by omega
    by_cases hx : 1023 < x
    ·go_wp2_with fail
     go_ret2
     exact ⟨.inl ⟨⟨x, HX.out, hx⟩, rfl⟩, OO.out⟩
    ·obtain ⟨BA, bc, rfl⟩ := slc_val S
     have KT := Lib.hid (two_any _ (2 * i) _ S (num1 x) (by unfold num1; omega) (by omega))
     have G2 := Lib.hid (show ∀ y ∈ (segF l p).take (i + 1), y ≤ 1023 from by
      rw [HT.out]; intro y hy
      rcases List.mem_append.1 hy with hy | hy
      ·exact GD.out y hy
      ·simp at hy; omega)
     clear S
     by_cases hneg : x < -1
     ·rw [show ((num1 x : Nat) : Int) = 0 from by unfold num1; omega] at KT
      go_wp2_with fail
      refine KT.out.mono ?_
      rintro e w2 ⟨⟨v2, rfl, S2, fr⟩, ow⟩
      rw [← HP.out] at S2
      have S2 := Lib.hid S2
      have O2 := Lib.hid (OO.out.trans (ow.below_of OO.out.size F.out))
      have F2 := Lib.hid (show ∀ g ∈ ownB v2, w.heap.size ≤ g from fun g hg => (fr g hg).elim (F.out g) (fun h => Nat.le_trans OO.out.size h))
      clear fr ow
      go_wp2_with fail
      go_roundw
      case rel => exact ⟨i + 1, by omega, by go_num, S2.out, G2, O2.out, F2⟩
      case measure => simp [intOf]; omega
     ·rw [show ((num1 x : Nat) : Int) = x + 1 from by unfold num1; omega] at KT
      go_wp2_with fail
      refine KT.out.mono ?_
      rintro e w2 ⟨⟨v2, rfl, S2, fr⟩, ow⟩
      rw [← HP.out] at S2
      have S2 := Lib.hid S2
      have O2 := Lib.hid (OO.out.trans (ow.below_of OO.out.size F.out))
      have F2 := Lib.hid (show ∀ g ∈ ownB v2, w.heap.size ≤ g from fun g hg => (fr g hg).elim (F.out g) (fun h => Nat.le_trans OO.out.size h))
      clear fr ow
      go_wp2_with fail
      go_roundw
      case rel => exact ⟨i + 1, by omega, by go_num, S2.out, G2, O2.out, F2⟩
      case measure => simp [intOf]; omega
   ·obtain rfl : i = m := by omega
    have hseg : (segF l p).take i = segF l p := List.take_of_length_le (by rw [segF_length, HL.out]; have := HM.out; omega)
    rw [hseg] at S
    have G2 := Lib.hid (show ∀ y ∈ segF l p, y ≤ 1023 from by have := GD.out; rwa [hseg] at this)
    obtain ⟨g, cap, rest, rfl, B, hc, _⟩ := S.form (by have := HM.out; omega) (by omega)
    have ST := Lib.hid (run_string_of (P := Tryz.prog) wr 141 9 5 Tryz.underlying141 Tryz.underlying5 Tryz.underlying9 ⟨g, 0, none⟩ (2 * i) cap (partF (segF l p)) (by have := S.1; simpa using this) (cells_at B 0 _ (by intro j u hu; rw [Nat.zero_add]; exact List.getElem?_append_left (List.getElem?_eq_some_iff.1 hu).1 ▸ hu)))
    have OO := Lib.hid O
    clear O S B hseg
    go_wp2_with fail
    rw [ST.out]
    go_wp2_with fail
    go_ret2
    exact ⟨.inr ⟨G2.out, rfl⟩, OO.out⟩
 ·rw [show ((((p : Int) + 1) * 116).toNat - p * 116) = m from by have := HM.out; omega]
  go_loopw [6, 29] (fun bv iv wr => ∃ i : Nat, i ≤ m ∧ iv = .int .i64 i ∧ Slc wr 5 1 bv (2 * i) (bvs (partF ((segF l p).take i))) ∧ Hid (∀ x ∈ (segF l p).take i, x ≤ 1023) ∧ Below w.heap.size w wr ∧ Hid (∀ g ∈ ownB bv, w.heap.size ≤ g)) (fun _ iv _ => m - (intOf iv).toNat)
  case atStart => exact ⟨0, Nat.zero_le _, rfl, Slc.nil _ _ _, Lib.hid (by simp), O1.out, Lib.hid (by simp [ownB])⟩
  case round =>
   obtain ⟨i, hi, rfl, S, GD, O, F⟩ := hrel
   by_cases h' : i < m
   ·obtain ⟨x, ck, ht, hp2, hmem⟩ := part_step (HI.out.below O) hm1 hm2 h'
    have OO := Lib.hid O
    have HT := Lib.hid ht
    have HP := Lib.hid hp2
    have HX := Lib.hid hmem
    clear O ht hp2 hmem
    have hiI : (i : Int) < (m : Int) := by omega
    by_cases hx : 1023 < x
    ·go_wp2_with fail
     go_ret2
     exact ⟨.inl ⟨⟨x, HX.out, hx⟩, rfl⟩, OO.out⟩
    ·obtain ⟨BA, bc, rfl⟩ := slc_val S
     have KT := Lib.hid (two_any _ (2 * i) _ S (num1 x) (by unfold num1; omega) (by omega))
     have G2 := Lib.hid (show ∀ y ∈ (segF l p).take (i + 1), y ≤ 1023 from by
      rw [HT.out]; intro y hy
      rcases List.mem_append.1 hy with hy | hy
      ·exact GD.out y hy
      ·simp at hy; omega)
     clear S
     by_cases hneg : x < -1
     ·rw [show ((num1 x : Nat) : Int) = 0 from by unfold num1; omega] at KT
      go_wp2_with fail
      refine KT.out.mono ?_
      rintro e w2 ⟨⟨v2, rfl, S2, fr⟩, ow⟩
      rw [← HP.out] at S2
      have S2 := Lib.hid S2
      have O2 := Lib.hid (OO.out.trans (ow.below_of OO.out.size F.out))
      have F2 := Lib.hid (show ∀ g ∈ ownB v2, w.heap.size ≤ g from fun g hg => (fr g hg).elim (F.out g) (fun h => Nat.le_trans OO.out.size h))
      clear fr ow
      go_wp2_with fail
      go_roundw
      case rel => exact ⟨i + 1, by omega, by go_num, S2.out, G2, O2.out, F2⟩
      case measure => simp [intOf]; omega
     ·rw [show ((num1 x : Nat) : Int) = x + 1 from by unfold num1; omega] at KT
      go_wp2_with fail
      refine KT.out.mono ?_
      rintro e w2 ⟨⟨v2, rfl, S2, fr⟩, ow⟩
      rw [← HP.out] at S2
      have S2 := Lib.hid S2
      have O2 := Lib.hid (OO.out.trans (ow.below_of OO.out.size F.out))
      have F2 := Lib.hid (show ∀ g ∈ ownB v2, w.heap.size ≤ g from fun g hg => (fr g hg).elim (F.out g) (fun h => Nat.le_trans OO.out.size h))
      clear fr ow
      go_wp2_with fail
      go_roundw
      case rel => exact ⟨i + 1, by omega, by go_num, S2.out, G2, O2.out, F2⟩
      case measure => simp [intOf]; omega
   ·obtain rfl : i = m := by omega
    have hseg : (segF l p).take i = segF l p := List.take_of_length_le (by rw [segF_length, HL.out]; have := HM.out; omega)
    rw [hseg] at S
    have G2 := Lib.hid (show ∀ y ∈ segF l p, y ≤ 1023 from by have := GD.out; rwa [hseg] at this)
    obtain ⟨g, cap, rest, rfl, B, hc, _⟩ := S.form (by have := HM.out; omega) (by omega)
    have ST := Lib.hid (run_string_of (P := Tryz.prog) wr 141 9 5 Tryz.underlying141 Tryz.underlying5 Tryz.underlying9 ⟨g, 0, none⟩ (2 * i) cap (partF (segF l p)) (by have := S.1; simpa using this) (cells_at B 0 _ (by intro j u hu; rw [Nat.zero_add]; exact List.getElem?_append_left (List.getElem?_eq_some_iff.1 hu).1 ▸ hu)))
    have OO := Lib.hid O
    clear O S B hseg
    go_wp2_with fail
    rw [ST.out]
    go_wp2_with fail
    go_ret2
    exact ⟨.inr ⟨G2.out, rfl⟩, OO.out⟩
end Go.Proofs.YtbelcgjbhpjnpaaGreat.Rt

/- roots: a part of a table, read. -/
namespace Go.Proofs.YtbelcgjbhpjnpaaGreat.Rt
open Go.RowKit Pk
attribute [local go_sem ↓] Go.wp_at_zero Go.wp_at_succ exec_app
theorem info_int1 : (Tryz.prog.info? 3).map (fun i => (i.zero, i.size, i.bytes)) = some (some (.int .i64 0), 1, 8) := by kernel_rfl
/-- numbers as values -/
def nvs (l : List Int) : List Value := l.map (Value.int .i64)
@[simp] theorem nvs_length (l : List Int) : (nvs l).length = l.length := by simp [nvs]
def getF (T : List UInt8) (m : Nat) : List Int := (List.range m).map fun j => (at2 T (2 * j) : Int) - 1
theorem getF_succ (T : List UInt8) (m : Nat) : getF T (m + 1) = getF T m ++ [(at2 T (2 * m) : Int) - 1] := by
 unfold getF
 rw [List.range_succ, List.map_append]; rfl
@[simp] theorem getF_length (T : List UInt8) (m : Nat) : (getF T m).length = m := by simp [getF]
set_option maxRecDepth 100000 in
set_option maxHeartbeats 4000000 in
theorem getpart_any (T : ByteArray) (m : Nat) (hm : m ≤ 116) (hT : 2 * m ≤ T.size) (hs : T.size ≤ 1000000) (w : World) :
  Calls Tryz.prog 155 #[.string T, .int .i64 (m : Nat)] w fun e w' => (((∃ j, j < m ∧ 1024 < at2 T.data.toList (2 * j)) ∧ e = .returned (.tuple #[.slice none 0 0, .int .i64 14])) ∨ ((∀ j, j < m → at2 T.data.toList (2 * j) ≤ 1024) ∧ ∃ v, e = .returned (.tuple #[v, .int .i64 0]) ∧ Slc w' 3 1 v m (nvs (getF T.data.toList m)) ∧ ∀ g ∈ ownB v, w.heap.size ≤ g)) ∧ Below w.heap.size w w' := by
 have h1 : ¬ (m : Int) < 0 := by omega
 have h2 : ¬ (116 : Int) < (m : Int) := by omega
 have e1 : IntKind.i64.wrap (2 * (m : Int)) = 2 * (m : Int) := IntWalk.i64_in _ (by omega)
 have h3 : ¬ (T.size : Int) < 2 * (m : Int) := by omega
 go_enter Tryz.func155, Tryz.ntmps155
 go_wp2_with fail
 go_loopw [6, 23] (fun bv iv wr => ∃ i : Nat, i ≤ m ∧ iv = .int .i64 i ∧ Slc wr 3 1 bv i (nvs (getF T.data.toList i)) ∧ Hid (∀ j, j < i → at2 T.data.toList (2 * j) ≤ 1024) ∧ Below w.heap.size w wr ∧ Hid (∀ g ∈ ownB bv, w.heap.size ≤ g)) (fun _ iv _ => m - (intOf iv).toNat)
 case atStart => exact ⟨0, Nat.zero_le _, rfl, Slc.nil _ _ _, Lib.hid (by intro j hj; omega), Below.refl _ _, Lib.hid (by simp [ownB])⟩
 case round =>
  obtain ⟨i, hi, rfl, S, GD, O, F⟩ := hrel
  by_cases h' : i < m
  ·have hiI : (i : Int) < (m : Int) := by omega
   have h0 : 2 * i < T.size := by omega
   have hk : 2 * i + 1 < T.size := by omega
   have b0 := T[2 * i].toNat_lt
   have b1 := T[2 * i + 1].toNat_lt
   have HV := Lib.hid (show bits .or .i64 ((T[2 * i].toNat : Int) * 256) (T[2 * i + 1].toNat : Int) = ((at2 T.data.toList (2 * i) : Nat) : Int) from by
    rw [or8 _ _ (by omega) (by omega)]; unfold at2; rw [getD_size _ _ h0, getD_size _ _ hk])
   have f1 : IntKind.i64.wrap (2 * (i : Int)) = 2 * (i : Int) := IntWalk.i64_in _ (by omega)
   have f2 : IntKind.i64.wrap (2 * (i : Int) + 1) = 2 * (i : Int) + 1 := IntWalk.i64_in _ (by omega)
   have f3 : (0 : Int) ≤ 2 * (i : Int) := by omega
   have f4 : (0 : Int) ≤ 2 * (i : Int) + 1 := by omega
   have f5 : (2 * (i : Int)).toNat = 2 * i := by omega
   have f6 : (2 * (i : Int) + 1).toNat = 2 * i + 1 := by omega
   have f7 : 2 * (i : Int) < (T.size : Int) := by omega
   have f8 : 2 * (i : Int) + 1 < (T.size : Int) := by omega
   have e4 : IntKind.i64.wrap (T[2 * i].toNat : Int) = (T[2 * i].toNat : Int) := IntWalk.i64_in _ (by omega)
   have e5 : IntKind.i64.wrap ((T[2 * i].toNat : Int) * 256) = (T[2 * i].toNat : Int) * 256 := IntWalk.i64_in _ (by omega)
   have e6 : IntKind.i64.wrap (T[2 * i + 1].toNat : Int) = (T[2 * i + 1].toNat : Int) := IntWalk.i64_in _ (by omega)
   go_wp2_with fail
   go_quiet (fail)
   rw [HV.out]
   have hlt := at2_lt T.data.toList (2 * i)
   generalize hav : at2 T.data.toList (2 * i) = av at *
   have HA := Lib.hid hav
   clear HV hav
   by_cases hbig : 1024 < av
   ·have hbI : (1024 : Int) < (av : Int) := by omega
    have OO := Lib.hid (Below_drewN O nq)
    clear O
    go_wp2_with fail
    go_ret2
    refine ⟨.inl ⟨⟨i, h', by rw [HA.out]; exact hbig⟩, rfl⟩, ?_⟩
    exact OO.out
   ·have hbI : ¬ (1024 : Int) < (av : Int) := by omega
    have eW : IntKind.i64.wrap ((av : Int) - 1) = (av : Int) - 1 := IntWalk.i64_in _ (by omega)
    obtain ⟨BA, bc, rfl⟩ := slc_val S
    have O1 := Below_drewN O nq
    have S1 := S.drewN nq
    clear O S
    have WD : ∃ W, W = wr.drewN nq := ⟨_, rfl⟩
    obtain ⟨W, hW⟩ := WD
    rw [← hW] at O1 S1
    obtain ⟨v', w2, ea, S2, ow, fr⟩ := append_one (P := Tryz.prog) S1 52 52 (.int .i64 0) 8 Tryz.underlying52 info_int1 rfl (.int .i64 ((av : Int) - 1)) rfl (by unfold maxLen; omega) (by omega)
    obtain ⟨V2, vc2, rfl⟩ := slc_val S2
    have hsz : W.heap.size = wr.heap.size := by rw [hW]; rfl
    rw [hsz] at ea
    have EA := Lib.hid ea
    have SX := Lib.hid (show Slc w2 3 1 (.slice V2 (i + 1) vc2) (i + 1) (nvs (getF T.data.toList (i + 1))) from by
     rw [getF_succ, HA.out]; unfold nvs at S2 ⊢; rw [List.map_append]; exact S2)
    have OX := Lib.hid (O1.trans (ow.below_of O1.size F.out))
    have FX := Lib.hid (show ∀ x ∈ ownB (.slice V2 (i + 1) vc2), w.heap.size ≤ x from fun x hx => (fr x hx).elim (F.out x) (fun h => Nat.le_trans O1.size h))
    have G2 := Lib.hid (show ∀ j, j < i + 1 → at2 T.data.toList (2 * j) ≤ 1024 from fun j hj => by
     rcases Nat.lt_succ_iff_lt_or_eq.1 hj with h | rfl
     ·exact GD.out j h
     ·rw [HA.out]; omega)
    clear ea S2 ow fr O1 S1 hsz
    have HW := Lib.hid hW
    clear hW
    go_wp2_with fail
    rw [← HW.out]
    rw [EA.out]
    go_wp2_with fail
    go_roundw
    case rel => exact ⟨i + 1, by omega, by go_num, SX.out, G2, OX.out, FX⟩
    case measure => simp [intOf]; omega
  ·obtain rfl : i = m := by omega
   have OO := Lib.hid O
   have SS := Lib.hid S
   obtain ⟨BA, bc, rfl⟩ := slc_val S
   clear S O
   go_wp2_with fail
   go_ret2
   exact ⟨.inr ⟨GD.out, _, rfl, SS.out, F.out⟩, OO.out⟩
end Go.Proofs.YtbelcgjbhpjnpaaGreat.Rt

/- the newer one of two slots. -/
namespace Go.Proofs.YtbelcgjbhpjnpaaGreat.Rt
open Go.RowKit Pk
attribute [local go_sem ↓] Go.wp_at_zero Go.wp_at_succ
/-- a root's parts lie in an array of their own -/
def Pa (w : World) (b : Nat) (t : List UInt8) (A : Option Addr) (c : Nat) : Prop := ∃ g rest, b ≤ g ∧ A = some ⟨g, 0, none⟩ ∧ c = at2 (decM t) 2 ∧ Blk w g 185 (ivs (decP t) ++ rest).toArray
theorem Pa.below {w w' : World} {b : Nat} {t : List UInt8} {A : Option Addr} {c : Nat} (h : Pa w b t A c) (hb : Below w.heap.size w w') : Pa w' b t A c := by
 obtain ⟨g, rest, h1, h2, h3, B⟩ := h
 exact ⟨g, rest, h1, h2, h3, B.below hb B.lt⟩
theorem Pa.alloc {w : World} {b : Nat} {t : List UInt8} {A : Option Addr} {c : Nat} (h : Pa w b t A c) (o : Obj) : Pa (w.alloc o) b t A c := h.below (belowAlloc (Below.refl _ _) o)
theorem Pa.le {w : World} {b b' : Nat} {t : List UInt8} {A : Option Addr} {c : Nat} (h : Pa w b t A c) (hb : b' ≤ b) : Pa w b' t A c := by
 obtain ⟨g, rest, h1, h2⟩ := h
 exact ⟨g, rest, by omega, h2⟩
theorem Pa.set {w : World} {b : Nat} {t : List UInt8} {A : Option Addr} {c : Nat} (h : Pa w b t A c) {p : Addr} (hp : p.block < b) (v : Value) : Pa (w.setCell p v) b t A c := by
 obtain ⟨g, rest, h1, h2, h3, B⟩ := h
 exact ⟨g, rest, h1, h2, h3, B.far (by omega) v⟩
/-- what Newer tells of two slots -/
def NewR (u v : List UInt8) (w : World) (e : Ending) (w' : World) : Prop :=
 ((∃ (t : List UInt8) (k : Int) (A : Option Addr) (c : Nat), ((k = 1 ∧ t = v ∧ goodR v ∧ (goodR u → decEp u < decEp v)) ∨ (k = 0 ∧ t = u ∧ goodR u ∧ (goodR v → decEp v ≤ decEp u))) ∧ e = .returned (.tuple #[rootV (decEp t) (at2 (decM t) 0 : Nat) A (at2 (decM t) 2) c, .int .i64 k, .bool true]) ∧ Pa w' (w.heap.size + 1) t A c) ∨
  (¬ goodR u ∧ ¬ goodR v ∧ e = .returned (.tuple #[rootV 0 0 none 0 0, .int .i64 (-1), .bool false]))) ∧ Below w.heap.size w w'
set_option maxRecDepth 100000 in
set_option maxHeartbeats 4000000 in
theorem newer_any (a b : ByteArray) (ha : a.size = 64) (hb : b.size = 64) (w : World) :
  Calls Tryz.prog 92 #[.string a, .string b] w (NewR a.data.toList b.data.toList w) := by
 have B0 := Lib.hid (Blk.new w 125 #[.int .i64 0, .int .i64 0, .slice none 0 0])
 have O0 := Lib.hid (belowAlloc (Below.refl w.heap.size w) (.cells #[.int .i64 0, .int .i64 0, .slice none 0 0] 125))
 have K0 := Lib.hid (fun w => rget_any a ha w)
 have K1 := Lib.hid (fun w => rget_any b hb w)
 generalize hu : a.data.toList = u at *
 generalize hv : b.data.toList = v at *
 clear hu hv ha hb
 unfold NewR rootV
 go_enter Tryz.func92, Tryz.ntmps92
 go_wp2_with fail
 refine (K0.out _).mono ?_
 rintro e w1 ⟨hx, hb1⟩
 have N1 := Lib.hid (show w.heap.size + 1 ≤ w1.heap.size from by have := hb1.size; simp at this; omega)
 rcases hx with ⟨xg, xA, xc, rfl, -, -, xb, xr⟩ | ⟨xg, rfl⟩
 ·have hwl := N1.out
  have GX := Lib.hid xg
  obtain ⟨xe, hxe⟩ : ∃ z, decEp u = z := ⟨_, rfl⟩
  obtain ⟨xl, hxl⟩ : ∃ z : Nat, at2 (decM u) 0 = z := ⟨_, rfl⟩
  obtain ⟨xn, hxn⟩ : ∃ z : Nat, at2 (decM u) 2 = z := ⟨_, rfl⟩
  have XP := Lib.hid (show Pa w1 (w.heap.size + 1) u xA xc from by
   obtain ⟨g, rest, e1, e2, e3⟩ := xr
   have hz : w.heap.size + 1 ≤ g := by have hz := xb _ e1; simp at hz; omega
   exact ⟨g, rest, by omega, e1, e2, e3⟩)
  clear xb xr xg
  rw [hxe, hxl, hxn]
  unfold rootV
  have HXE := Lib.hid hxe
  have HXL := Lib.hid hxl
  have HXN := Lib.hid hxn
  clear hxe hxl hxn
  have a2 := belowAlloc (Below.refl w1.heap.size w1) (.cells #[.int .i64 xe, .int .i64 (xl : Int), .slice xA xn xc] 125)
  have O2 := Lib.hid (bstep (bstep O0.out hb1) a2)
  have B2 := Lib.hid ((B0.out.below hb1 B0.out.lt).alloc (.cells #[.int .i64 xe, .int .i64 (xl : Int), .slice xA xn xc] 125))
  have X2 := Lib.hid (Blk.new w1 125 #[.int .i64 xe, .int .i64 (xl : Int), .slice xA xn xc])
  have XP2 := Lib.hid (XP.out.alloc (.cells #[.int .i64 xe, .int .i64 (xl : Int), .slice xA xn xc] 125))
  clear hb1 a2
  go_wp2_with fail
  have NW := Lib.hid (show w1.heap.size ≤ (w1.alloc (.cells #[.int .i64 xe, .int .i64 (xl : Int), .slice xA xn xc] 125)).heap.size from by simp)
  generalize hw2 : (w1.alloc (.cells #[.int .i64 xe, .int .i64 (xl : Int), .slice xA xn xc] 125)) = w2 at *
  clear hw2
  refine (K1.out _).mono ?_
  rintro e w3 ⟨hy, hb3⟩
  rcases hy with ⟨yg, yA, yc, rfl, -, -, yb, yr⟩ | ⟨yg, rfl⟩
  ·have hwl : w.heap.size + 1 ≤ w2.heap.size := by have := N1.out; have := NW.out; omega
   have GY := Lib.hid yg
   obtain ⟨ye, hye⟩ : ∃ z, decEp v = z := ⟨_, rfl⟩
   obtain ⟨yl, hyl⟩ : ∃ z : Nat, at2 (decM v) 0 = z := ⟨_, rfl⟩
   obtain ⟨yn, hyn⟩ : ∃ z : Nat, at2 (decM v) 2 = z := ⟨_, rfl⟩
   have YP := Lib.hid (show Pa w3 (w.heap.size + 1) v yA yc from by
    obtain ⟨g, rest, e1, e2, e3⟩ := yr
    have hz : w2.heap.size ≤ g := yb _ e1
    exact ⟨g, rest, by omega, e1, e2, e3⟩)
   clear yb yr yg
   rw [hye, hyl, hyn]
   unfold rootV
   have HYE := Lib.hid hye
   have HYL := Lib.hid hyl
   have HYN := Lib.hid hyn
   clear hye hyl hyn
   by_cases hc : xe < ye
   ·have HC := Lib.hid hc
    clear hc
    have a4 := belowAlloc (Below.refl w3.heap.size w3) (.cells #[.int .i64 ye, .int .i64 (yl : Int), .slice yA yn yc] 125)
    have O4 := Lib.hid (bstep (bstep O2.out hb3) a4)
    have B4 := Lib.hid ((B2.out.below hb3 B2.out.lt).alloc (.cells #[.int .i64 ye, .int .i64 (yl : Int), .slice yA yn yc] 125))
    have X4 := Lib.hid ((X2.out.below hb3 X2.out.lt).alloc (.cells #[.int .i64 ye, .int .i64 (yl : Int), .slice yA yn yc] 125))
    have Y4 := Lib.hid (Blk.new w3 125 #[.int .i64 ye, .int .i64 (yl : Int), .slice yA yn yc])
    have XP4 := Lib.hid ((XP2.out.below hb3).alloc (.cells #[.int .i64 ye, .int .i64 (yl : Int), .slice yA yn yc] 125))
    have YP4 := Lib.hid (YP.out.alloc (.cells #[.int .i64 ye, .int .i64 (yl : Int), .slice yA yn yc] 125))
    have zf0 : (w3.alloc (.cells #[.int .i64 ye, .int .i64 (yl : Int), .slice yA yn yc] 125)).frozen? ⟨w.heap.size, 0, none⟩ = false := B4.out.frozen 0 (by simp)
    have zc0 : (w3.alloc (.cells #[.int .i64 ye, .int .i64 (yl : Int), .slice yA yn yc] 125)).cell? ⟨w.heap.size, 0, none⟩ = some (.int .i64 0) := B4.out.cell_some (i := 0) rfl
    have zf1 : (w3.alloc (.cells #[.int .i64 ye, .int .i64 (yl : Int), .slice yA yn yc] 125)).frozen? ⟨w.heap.size, 1, none⟩ = false := B4.out.frozen 1 (by simp)
    have zc1 : (w3.alloc (.cells #[.int .i64 ye, .int .i64 (yl : Int), .slice yA yn yc] 125)).cell? ⟨w.heap.size, 1, none⟩ = some (.int .i64 0) := B4.out.cell_some (i := 1) rfl
    have zf2 : (w3.alloc (.cells #[.int .i64 ye, .int .i64 (yl : Int), .slice yA yn yc] 125)).frozen? ⟨w.heap.size, 2, none⟩ = false := B4.out.frozen 2 (by simp)
    have zc2 : (w3.alloc (.cells #[.int .i64 ye, .int .i64 (yl : Int), .slice yA yn yc] 125)).cell? ⟨w.heap.size, 2, none⟩ = some (.slice none 0 0) := B4.out.cell_some (i := 2) rfl
    have xk0 : (w3.alloc (.cells #[.int .i64 ye, .int .i64 (yl : Int), .slice yA yn yc] 125)).cell? ⟨w1.heap.size, 0, none⟩ = some (.int .i64 xe) := X4.out.cell_some (i := 0) rfl
    have xk1 : (w3.alloc (.cells #[.int .i64 ye, .int .i64 (yl : Int), .slice yA yn yc] 125)).cell? ⟨w1.heap.size, 1, none⟩ = some (.int .i64 (xl : Int)) := X4.out.cell_some (i := 1) rfl
    have xk2 : (w3.alloc (.cells #[.int .i64 ye, .int .i64 (yl : Int), .slice yA yn yc] 125)).cell? ⟨w1.heap.size, 2, none⟩ = some (.slice xA xn xc) := X4.out.cell_some (i := 2) rfl
    have yk0 : (w3.alloc (.cells #[.int .i64 ye, .int .i64 (yl : Int), .slice yA yn yc] 125)).cell? ⟨w3.heap.size, 0, none⟩ = some (.int .i64 ye) := Y4.out.cell_some (i := 0) rfl
    have yk1 : (w3.alloc (.cells #[.int .i64 ye, .int .i64 (yl : Int), .slice yA yn yc] 125)).cell? ⟨w3.heap.size, 1, none⟩ = some (.int .i64 (yl : Int)) := Y4.out.cell_some (i := 1) rfl
    have yk2 : (w3.alloc (.cells #[.int .i64 ye, .int .i64 (yl : Int), .slice yA yn yc] 125)).cell? ⟨w3.heap.size, 2, none⟩ = some (.slice yA yn yc) := Y4.out.cell_some (i := 2) rfl
    have hlt := HC.out
    have ZB := Lib.hid (((B4.out.set_ 0 (.int .i64 ye)).set_ 1 (.int .i64 (yl : Int))).set_ 2 (.slice yA yn yc))
    have ZO := Lib.hid (((((Only.of_below (S := []) O4.out).setCell (p := ⟨w.heap.size, 0, none⟩) (fun h => absurd h (by simp)) (.int .i64 ye)).setCell (p := ⟨w.heap.size, 1, none⟩) (fun h => absurd h (by simp)) (.int .i64 (yl : Int))).setCell (p := ⟨w.heap.size, 2, none⟩) (fun h => absurd h (by simp)) (.slice yA yn yc)).below_nil)
    have ZP := Lib.hid (((YP4.out.set (p := ⟨w.heap.size, 0, none⟩) (by show w.heap.size < w.heap.size + 1; omega) (.int .i64 ye)).set (p := ⟨w.heap.size, 1, none⟩) (by show w.heap.size < w.heap.size + 1; omega) (.int .i64 (yl : Int))).set (p := ⟨w.heap.size, 2, none⟩) (by show w.heap.size < w.heap.size + 1; omega) (.slice yA yn yc))
    clear hb3 a4
    go_wp2_with fail
    exact bodyPost_ret (ret_root3 rfl rfl ZB.out) rfl ⟨.inl ⟨v, _, yA, yc, .inl ⟨rfl, rfl, GY.out, fun h => by first | exact HC.out | (rw [HXE.out, HYE.out]; exact HC.out)⟩, by first | rfl | (rw [HYE.out, HYL.out, HYN.out]; rfl), ZP.out⟩, ZO.out⟩
   ·have HC := Lib.hid hc
    clear hc
    have a4 := belowAlloc (Below.refl w3.heap.size w3) (.cells #[.int .i64 ye, .int .i64 (yl : Int), .slice yA yn yc] 125)
    have O4 := Lib.hid (bstep (bstep O2.out hb3) a4)
    have B4 := Lib.hid ((B2.out.below hb3 B2.out.lt).alloc (.cells #[.int .i64 ye, .int .i64 (yl : Int), .slice yA yn yc] 125))
    have X4 := Lib.hid ((X2.out.below hb3 X2.out.lt).alloc (.cells #[.int .i64 ye, .int .i64 (yl : Int), .slice yA yn yc] 125))
    have Y4 := Lib.hid (Blk.new w3 125 #[.int .i64 ye, .int .i64 (yl : Int), .slice yA yn yc])
    have XP4 := Lib.hid ((XP2.out.below hb3).alloc (.cells #[.int .i64 ye, .int .i64 (yl : Int), .slice yA yn yc] 125))
    have YP4 := Lib.hid (YP.out.alloc (.cells #[.int .i64 ye, .int .i64 (yl : Int), .slice yA yn yc] 125))
    have zf0 : (w3.alloc (.cells #[.int .i64 ye, .int .i64 (yl : Int), .slice yA yn yc] 125)).frozen? ⟨w.heap.size, 0, none⟩ = false := B4.out.frozen 0 (by simp)
    have zc0 : (w3.alloc (.cells #[.int .i64 ye, .int .i64 (yl : Int), .slice yA yn yc] 125)).cell? ⟨w.heap.size, 0, none⟩ = some (.int .i64 0) := B4.out.cell_some (i := 0) rfl
    have zf1 : (w3.alloc (.cells #[.int .i64 ye, .int .i64 (yl : Int), .slice yA yn yc] 125)).frozen? ⟨w.heap.size, 1, none⟩ = false := B4.out.frozen 1 (by simp)
    have zc1 : (w3.alloc (.cells #[.int .i64 ye, .int .i64 (yl : Int), .slice yA yn yc] 125)).cell? ⟨w.heap.size, 1, none⟩ = some (.int .i64 0) := B4.out.cell_some (i := 1) rfl
    have zf2 : (w3.alloc (.cells #[.int .i64 ye, .int .i64 (yl : Int), .slice yA yn yc] 125)).frozen? ⟨w.heap.size, 2, none⟩ = false := B4.out.frozen 2 (by simp)
    have zc2 : (w3.alloc (.cells #[.int .i64 ye, .int .i64 (yl : Int), .slice yA yn yc] 125)).cell? ⟨w.heap.size, 2, none⟩ = some (.slice none 0 0) := B4.out.cell_some (i := 2) rfl
    have xk0 : (w3.alloc (.cells #[.int .i64 ye, .int .i64 (yl : Int), .slice yA yn yc] 125)).cell? ⟨w1.heap.size, 0, none⟩ = some (.int .i64 xe) := X4.out.cell_some (i := 0) rfl
    have xk1 : (w3.alloc (.cells #[.int .i64 ye, .int .i64 (yl : Int), .slice yA yn yc] 125)).cell? ⟨w1.heap.size, 1, none⟩ = some (.int .i64 (xl : Int)) := X4.out.cell_some (i := 1) rfl
    have xk2 : (w3.alloc (.cells #[.int .i64 ye, .int .i64 (yl : Int), .slice yA yn yc] 125)).cell? ⟨w1.heap.size, 2, none⟩ = some (.slice xA xn xc) := X4.out.cell_some (i := 2) rfl
    have yk0 : (w3.alloc (.cells #[.int .i64 ye, .int .i64 (yl : Int), .slice yA yn yc] 125)).cell? ⟨w3.heap.size, 0, none⟩ = some (.int .i64 ye) := Y4.out.cell_some (i := 0) rfl
    have yk1 : (w3.alloc (.cells #[.int .i64 ye, .int .i64 (yl : Int), .slice yA yn yc] 125)).cell? ⟨w3.heap.size, 1, none⟩ = some (.int .i64 (yl : Int)) := Y4.out.cell_some (i := 1) rfl
    have yk2 : (w3.alloc (.cells #[.int .i64 ye, .int .i64 (yl : Int), .slice yA yn yc] 125)).cell? ⟨w3.heap.size, 2, none⟩ = some (.slice yA yn yc) := Y4.out.cell_some (i := 2) rfl
    have hlt := HC.out
    have ZB := Lib.hid (((B4.out.set_ 0 (.int .i64 xe)).set_ 1 (.int .i64 (xl : Int))).set_ 2 (.slice xA xn xc))
    have ZO := Lib.hid (((((Only.of_below (S := []) O4.out).setCell (p := ⟨w.heap.size, 0, none⟩) (fun h => absurd h (by simp)) (.int .i64 xe)).setCell (p := ⟨w.heap.size, 1, none⟩) (fun h => absurd h (by simp)) (.int .i64 (xl : Int))).setCell (p := ⟨w.heap.size, 2, none⟩) (fun h => absurd h (by simp)) (.slice xA xn xc)).below_nil)
    have ZP := Lib.hid (((XP4.out.set (p := ⟨w.heap.size, 0, none⟩) (by show w.heap.size < w.heap.size + 1; omega) (.int .i64 xe)).set (p := ⟨w.heap.size, 1, none⟩) (by show w.heap.size < w.heap.size + 1; omega) (.int .i64 (xl : Int))).set (p := ⟨w.heap.size, 2, none⟩) (by show w.heap.size < w.heap.size + 1; omega) (.slice xA xn xc))
    clear hb3 a4
    go_wp2_with fail
    exact bodyPost_ret (ret_root3 rfl rfl ZB.out) rfl ⟨.inl ⟨u, _, xA, xc, .inr ⟨rfl, rfl, GX.out, fun h => by have hcc := HC.out; first | omega | (rw [HXE.out, HYE.out]; omega)⟩, by first | rfl | (rw [HXE.out, HXL.out, HXN.out]; rfl), ZP.out⟩, ZO.out⟩
  ·have GY := Lib.hid yg
   clear yg
   unfold rootV
   have a4 := belowAlloc (Below.refl w3.heap.size w3) (.cells #[.int .i64 0, .int .i64 0, .slice none 0 0] 125)
   have O4 := Lib.hid (bstep (bstep O2.out hb3) a4)
   have B4 := Lib.hid ((B2.out.below hb3 B2.out.lt).alloc (.cells #[.int .i64 0, .int .i64 0, .slice none 0 0] 125))
   have X4 := Lib.hid ((X2.out.below hb3 X2.out.lt).alloc (.cells #[.int .i64 0, .int .i64 0, .slice none 0 0] 125))
   have Y4 := Lib.hid (Blk.new w3 125 #[.int .i64 0, .int .i64 0, .slice none 0 0])
   have XP4 := Lib.hid ((XP2.out.below hb3).alloc (.cells #[.int .i64 0, .int .i64 0, .slice none 0 0] 125))
   have zf0 : (w3.alloc (.cells #[.int .i64 0, .int .i64 0, .slice none 0 0] 125)).frozen? ⟨w.heap.size, 0, none⟩ = false := B4.out.frozen 0 (by simp)
   have zc0 : (w3.alloc (.cells #[.int .i64 0, .int .i64 0, .slice none 0 0] 125)).cell? ⟨w.heap.size, 0, none⟩ = some (.int .i64 0) := B4.out.cell_some (i := 0) rfl
   have zf1 : (w3.alloc (.cells #[.int .i64 0, .int .i64 0, .slice none 0 0] 125)).frozen? ⟨w.heap.size, 1, none⟩ = false := B4.out.frozen 1 (by simp)
   have zc1 : (w3.alloc (.cells #[.int .i64 0, .int .i64 0, .slice none 0 0] 125)).cell? ⟨w.heap.size, 1, none⟩ = some (.int .i64 0) := B4.out.cell_some (i := 1) rfl
   have zf2 : (w3.alloc (.cells #[.int .i64 0, .int .i64 0, .slice none 0 0] 125)).frozen? ⟨w.heap.size, 2, none⟩ = false := B4.out.frozen 2 (by simp)
   have zc2 : (w3.alloc (.cells #[.int .i64 0, .int .i64 0, .slice none 0 0] 125)).cell? ⟨w.heap.size, 2, none⟩ = some (.slice none 0 0) := B4.out.cell_some (i := 2) rfl
   have xk0 : (w3.alloc (.cells #[.int .i64 0, .int .i64 0, .slice none 0 0] 125)).cell? ⟨w1.heap.size, 0, none⟩ = some (.int .i64 xe) := X4.out.cell_some (i := 0) rfl
   have xk1 : (w3.alloc (.cells #[.int .i64 0, .int .i64 0, .slice none 0 0] 125)).cell? ⟨w1.heap.size, 1, none⟩ = some (.int .i64 (xl : Int)) := X4.out.cell_some (i := 1) rfl
   have xk2 : (w3.alloc (.cells #[.int .i64 0, .int .i64 0, .slice none 0 0] 125)).cell? ⟨w1.heap.size, 2, none⟩ = some (.slice xA xn xc) := X4.out.cell_some (i := 2) rfl
   have yk0 : (w3.alloc (.cells #[.int .i64 0, .int .i64 0, .slice none 0 0] 125)).cell? ⟨w3.heap.size, 0, none⟩ = some (.int .i64 0) := Y4.out.cell_some (i := 0) rfl
   have yk1 : (w3.alloc (.cells #[.int .i64 0, .int .i64 0, .slice none 0 0] 125)).cell? ⟨w3.heap.size, 1, none⟩ = some (.int .i64 0) := Y4.out.cell_some (i := 1) rfl
   have yk2 : (w3.alloc (.cells #[.int .i64 0, .int .i64 0, .slice none 0 0] 125)).cell? ⟨w3.heap.size, 2, none⟩ = some (.slice none 0 0) := Y4.out.cell_some (i := 2) rfl
   have ZB := Lib.hid (((B4.out.set_ 0 (.int .i64 xe)).set_ 1 (.int .i64 (xl : Int))).set_ 2 (.slice xA xn xc))
   have ZO := Lib.hid (((((Only.of_below (S := []) O4.out).setCell (p := ⟨w.heap.size, 0, none⟩) (fun h => absurd h (by simp)) (.int .i64 xe)).setCell (p := ⟨w.heap.size, 1, none⟩) (fun h => absurd h (by simp)) (.int .i64 (xl : Int))).setCell (p := ⟨w.heap.size, 2, none⟩) (fun h => absurd h (by simp)) (.slice xA xn xc)).below_nil)
   have ZP := Lib.hid (((XP4.out.set (p := ⟨w.heap.size, 0, none⟩) (by show w.heap.size < w.heap.size + 1; omega) (.int .i64 xe)).set (p := ⟨w.heap.size, 1, none⟩) (by show w.heap.size < w.heap.size + 1; omega) (.int .i64 (xl : Int))).set (p := ⟨w.heap.size, 2, none⟩) (by show w.heap.size < w.heap.size + 1; omega) (.slice xA xn xc))
   clear hb3 a4
   go_wp2_with fail
   exact bodyPost_ret (ret_root3 rfl rfl ZB.out) rfl ⟨.inl ⟨u, _, xA, xc, .inr ⟨rfl, rfl, GX.out, fun h => absurd h GY.out⟩, by first | rfl | (rw [HXE.out, HXL.out, HXN.out]; rfl), ZP.out⟩, ZO.out⟩
 ·have GX := Lib.hid xg
  clear xg
  unfold rootV
  have a2 := belowAlloc (Below.refl w1.heap.size w1) (.cells #[.int .i64 0, .int .i64 0, .slice none 0 0] 125)
  have O2 := Lib.hid (bstep (bstep O0.out hb1) a2)
  have B2 := Lib.hid ((B0.out.below hb1 B0.out.lt).alloc (.cells #[.int .i64 0, .int .i64 0, .slice none 0 0] 125))
  have X2 := Lib.hid (Blk.new w1 125 #[.int .i64 0, .int .i64 0, .slice none 0 0])
  clear hb1 a2
  go_wp2_with fail
  have NW := Lib.hid (show w1.heap.size ≤ (w1.alloc (.cells #[.int .i64 0, .int .i64 0, .slice none 0 0] 125)).heap.size from by simp)
  generalize hw2 : (w1.alloc (.cells #[.int .i64 0, .int .i64 0, .slice none 0 0] 125)) = w2 at *
  clear hw2
  refine (K1.out _).mono ?_
  rintro e w3 ⟨hy, hb3⟩
  rcases hy with ⟨yg, yA, yc, rfl, -, -, yb, yr⟩ | ⟨yg, rfl⟩
  ·have hwl : w.heap.size + 1 ≤ w2.heap.size := by have := N1.out; have := NW.out; omega
   have GY := Lib.hid yg
   obtain ⟨ye, hye⟩ : ∃ z, decEp v = z := ⟨_, rfl⟩
   obtain ⟨yl, hyl⟩ : ∃ z : Nat, at2 (decM v) 0 = z := ⟨_, rfl⟩
   obtain ⟨yn, hyn⟩ : ∃ z : Nat, at2 (decM v) 2 = z := ⟨_, rfl⟩
   have YP := Lib.hid (show Pa w3 (w.heap.size + 1) v yA yc from by
    obtain ⟨g, rest, e1, e2, e3⟩ := yr
    have hz : w2.heap.size ≤ g := yb _ e1
    exact ⟨g, rest, by omega, e1, e2, e3⟩)
   clear yb yr yg
   rw [hye, hyl, hyn]
   unfold rootV
   have HYE := Lib.hid hye
   have HYL := Lib.hid hyl
   have HYN := Lib.hid hyn
   clear hye hyl hyn
   have a4 := belowAlloc (Below.refl w3.heap.size w3) (.cells #[.int .i64 ye, .int .i64 (yl : Int), .slice yA yn yc] 125)
   have O4 := Lib.hid (bstep (bstep O2.out hb3) a4)
   have B4 := Lib.hid ((B2.out.below hb3 B2.out.lt).alloc (.cells #[.int .i64 ye, .int .i64 (yl : Int), .slice yA yn yc] 125))
   have X4 := Lib.hid ((X2.out.below hb3 X2.out.lt).alloc (.cells #[.int .i64 ye, .int .i64 (yl : Int), .slice yA yn yc] 125))
   have Y4 := Lib.hid (Blk.new w3 125 #[.int .i64 ye, .int .i64 (yl : Int), .slice yA yn yc])
   have YP4 := Lib.hid (YP.out.alloc (.cells #[.int .i64 ye, .int .i64 (yl : Int), .slice yA yn yc] 125))
   have zf0 : (w3.alloc (.cells #[.int .i64 ye, .int .i64 (yl : Int), .slice yA yn yc] 125)).frozen? ⟨w.heap.size, 0, none⟩ = false := B4.out.frozen 0 (by simp)
   have zc0 : (w3.alloc (.cells #[.int .i64 ye, .int .i64 (yl : Int), .slice yA yn yc] 125)).cell? ⟨w.heap.size, 0, none⟩ = some (.int .i64 0) := B4.out.cell_some (i := 0) rfl
   have zf1 : (w3.alloc (.cells #[.int .i64 ye, .int .i64 (yl : Int), .slice yA yn yc] 125)).frozen? ⟨w.heap.size, 1, none⟩ = false := B4.out.frozen 1 (by simp)
   have zc1 : (w3.alloc (.cells #[.int .i64 ye, .int .i64 (yl : Int), .slice yA yn yc] 125)).cell? ⟨w.heap.size, 1, none⟩ = some (.int .i64 0) := B4.out.cell_some (i := 1) rfl
   have zf2 : (w3.alloc (.cells #[.int .i64 ye, .int .i64 (yl : Int), .slice yA yn yc] 125)).frozen? ⟨w.heap.size, 2, none⟩ = false := B4.out.frozen 2 (by simp)
   have zc2 : (w3.alloc (.cells #[.int .i64 ye, .int .i64 (yl : Int), .slice yA yn yc] 125)).cell? ⟨w.heap.size, 2, none⟩ = some (.slice none 0 0) := B4.out.cell_some (i := 2) rfl
   have xk0 : (w3.alloc (.cells #[.int .i64 ye, .int .i64 (yl : Int), .slice yA yn yc] 125)).cell? ⟨w1.heap.size, 0, none⟩ = some (.int .i64 0) := X4.out.cell_some (i := 0) rfl
   have xk1 : (w3.alloc (.cells #[.int .i64 ye, .int .i64 (yl : Int), .slice yA yn yc] 125)).cell? ⟨w1.heap.size, 1, none⟩ = some (.int .i64 0) := X4.out.cell_some (i := 1) rfl
   have xk2 : (w3.alloc (.cells #[.int .i64 ye, .int .i64 (yl : Int), .slice yA yn yc] 125)).cell? ⟨w1.heap.size, 2, none⟩ = some (.slice none 0 0) := X4.out.cell_some (i := 2) rfl
   have yk0 : (w3.alloc (.cells #[.int .i64 ye, .int .i64 (yl : Int), .slice yA yn yc] 125)).cell? ⟨w3.heap.size, 0, none⟩ = some (.int .i64 ye) := Y4.out.cell_some (i := 0) rfl
   have yk1 : (w3.alloc (.cells #[.int .i64 ye, .int .i64 (yl : Int), .slice yA yn yc] 125)).cell? ⟨w3.heap.size, 1, none⟩ = some (.int .i64 (yl : Int)) := Y4.out.cell_some (i := 1) rfl
   have yk2 : (w3.alloc (.cells #[.int .i64 ye, .int .i64 (yl : Int), .slice yA yn yc] 125)).cell? ⟨w3.heap.size, 2, none⟩ = some (.slice yA yn yc) := Y4.out.cell_some (i := 2) rfl
   have ZB := Lib.hid (((B4.out.set_ 0 (.int .i64 ye)).set_ 1 (.int .i64 (yl : Int))).set_ 2 (.slice yA yn yc))
   have ZO := Lib.hid (((((Only.of_below (S := []) O4.out).setCell (p := ⟨w.heap.size, 0, none⟩) (fun h => absurd h (by simp)) (.int .i64 ye)).setCell (p := ⟨w.heap.size, 1, none⟩) (fun h => absurd h (by simp)) (.int .i64 (yl : Int))).setCell (p := ⟨w.heap.size, 2, none⟩) (fun h => absurd h (by simp)) (.slice yA yn yc)).below_nil)
   have ZP := Lib.hid (((YP4.out.set (p := ⟨w.heap.size, 0, none⟩) (by show w.heap.size < w.heap.size + 1; omega) (.int .i64 ye)).set (p := ⟨w.heap.size, 1, none⟩) (by show w.heap.size < w.heap.size + 1; omega) (.int .i64 (yl : Int))).set (p := ⟨w.heap.size, 2, none⟩) (by show w.heap.size < w.heap.size + 1; omega) (.slice yA yn yc))
   clear hb3 a4
   go_wp2_with fail
   exact bodyPost_ret (ret_root3 rfl rfl ZB.out) rfl ⟨.inl ⟨v, _, yA, yc, .inl ⟨rfl, rfl, GY.out, fun h => absurd h GX.out⟩, by first | rfl | (rw [HYE.out, HYL.out, HYN.out]; rfl), ZP.out⟩, ZO.out⟩
  ·have GY := Lib.hid yg
   clear yg
   unfold rootV
   have a4 := belowAlloc (Below.refl w3.heap.size w3) (.cells #[.int .i64 0, .int .i64 0, .slice none 0 0] 125)
   have O4 := Lib.hid (bstep (bstep O2.out hb3) a4)
   have B4 := Lib.hid ((B2.out.below hb3 B2.out.lt).alloc (.cells #[.int .i64 0, .int .i64 0, .slice none 0 0] 125))
   have X4 := Lib.hid ((X2.out.below hb3 X2.out.lt).alloc (.cells #[.int .i64 0, .int .i64 0, .slice none 0 0] 125))
   have Y4 := Lib.hid (Blk.new w3 125 #[.int .i64 0, .int .i64 0, .slice none 0 0])
   have zf0 : (w3.alloc (.cells #[.int .i64 0, .int .i64 0, .slice none 0 0] 125)).frozen? ⟨w.heap.size, 0, none⟩ = false := B4.out.frozen 0 (by simp)
   have zc0 : (w3.alloc (.cells #[.int .i64 0, .int .i64 0, .slice none 0 0] 125)).cell? ⟨w.heap.size, 0, none⟩ = some (.int .i64 0) := B4.out.cell_some (i := 0) rfl
   have zf1 : (w3.alloc (.cells #[.int .i64 0, .int .i64 0, .slice none 0 0] 125)).frozen? ⟨w.heap.size, 1, none⟩ = false := B4.out.frozen 1 (by simp)
   have zc1 : (w3.alloc (.cells #[.int .i64 0, .int .i64 0, .slice none 0 0] 125)).cell? ⟨w.heap.size, 1, none⟩ = some (.int .i64 0) := B4.out.cell_some (i := 1) rfl
   have zf2 : (w3.alloc (.cells #[.int .i64 0, .int .i64 0, .slice none 0 0] 125)).frozen? ⟨w.heap.size, 2, none⟩ = false := B4.out.frozen 2 (by simp)
   have zc2 : (w3.alloc (.cells #[.int .i64 0, .int .i64 0, .slice none 0 0] 125)).cell? ⟨w.heap.size, 2, none⟩ = some (.slice none 0 0) := B4.out.cell_some (i := 2) rfl
   have xk0 : (w3.alloc (.cells #[.int .i64 0, .int .i64 0, .slice none 0 0] 125)).cell? ⟨w1.heap.size, 0, none⟩ = some (.int .i64 0) := X4.out.cell_some (i := 0) rfl
   have xk1 : (w3.alloc (.cells #[.int .i64 0, .int .i64 0, .slice none 0 0] 125)).cell? ⟨w1.heap.size, 1, none⟩ = some (.int .i64 0) := X4.out.cell_some (i := 1) rfl
   have xk2 : (w3.alloc (.cells #[.int .i64 0, .int .i64 0, .slice none 0 0] 125)).cell? ⟨w1.heap.size, 2, none⟩ = some (.slice none 0 0) := X4.out.cell_some (i := 2) rfl
   have yk0 : (w3.alloc (.cells #[.int .i64 0, .int .i64 0, .slice none 0 0] 125)).cell? ⟨w3.heap.size, 0, none⟩ = some (.int .i64 0) := Y4.out.cell_some (i := 0) rfl
   have yk1 : (w3.alloc (.cells #[.int .i64 0, .int .i64 0, .slice none 0 0] 125)).cell? ⟨w3.heap.size, 1, none⟩ = some (.int .i64 0) := Y4.out.cell_some (i := 1) rfl
   have yk2 : (w3.alloc (.cells #[.int .i64 0, .int .i64 0, .slice none 0 0] 125)).cell? ⟨w3.heap.size, 2, none⟩ = some (.slice none 0 0) := Y4.out.cell_some (i := 2) rfl
   have ZB := Lib.hid (((B4.out.set_ 0 (.int .i64 0)).set_ 1 (.int .i64 0)).set_ 2 (.slice none 0 0))
   have ZO := Lib.hid (((((Only.of_below (S := []) O4.out).setCell (p := ⟨w.heap.size, 0, none⟩) (fun h => absurd h (by simp)) (.int .i64 0)).setCell (p := ⟨w.heap.size, 1, none⟩) (fun h => absurd h (by simp)) (.int .i64 0)).setCell (p := ⟨w.heap.size, 2, none⟩) (fun h => absurd h (by simp)) (.slice none 0 0)).below_nil)
   clear hb3 a4
   go_wp2_with fail
   exact bodyPost_ret (ret_root3 rfl rfl ZB.out) rfl ⟨.inr ⟨GX.out, GY.out, rfl⟩, ZO.out⟩
end Go.Proofs.YtbelcgjbhpjnpaaGreat.Rt
