/- roots: bytes read. -/
import Derived.Test.YtbelcgjbhpjnpaaGreatRa
import Derived.Deep.QuietTactic
set_option linter.all false
set_option linter.unusedVariables false
set_option linter.unusedSimpArgs false
set_option maxRecDepth 100000
namespace Go.Proofs.YtbelcgjbhpjnpaaGreat.Rt
open Go.RowKit Pk
attribute [local go_sem ↓] Go.wp_at_zero Go.wp_at_succ
def at2 (b : List UInt8) (k : Nat) : Nat := (b.getD k 0).toNat * 256 + (b.getD (k + 1) 0).toNat
theorem at2_lt (b : List UInt8) (k : Nat) : at2 b k < 65536 := by
 unfold at2
 have := (b.getD k 0).toNat_lt
 have := (b.getD (k + 1) 0).toNat_lt
 omega
theorem or8 (a b : Nat) (ha : a < 256) (hb : b < 256) : bits .or .i64 ((a : Int) * 256) (b : Int) = ((a * 256 + b : Nat) : Int) := by
 rw [bits_join .i64 32 (by decide) (fun n h0 h1 => IntWalk.i64_in n (by omega)) 8 _ _ (by omega) (by omega) (by omega) (by omega) (by omega) (by omega)]
 omega
theorem getD_size (s : ByteArray) (k : Nat) (h : k < s.size) : s.data.toList.getD k 0 = s[k] := by
 have : k < s.data.toList.length := by simpa using h
 simp [List.getD, List.getElem?_eq_getElem this]; rfl
set_option maxRecDepth 100000 in
set_option maxHeartbeats 1000000 in
theorem get1_any {w : World} {g : Nat} {T : ByteArray} (B : Blk w g 9 #[.string T]) (k : Nat) (hk : k + 1 < T.size) (hs : T.size ≤ 1000) :
  Calls Tryz.prog 196 #[.int .i64 (k : Int), .pointer (some ⟨g, 0, none⟩)] w fun e w' => e = .returned (.int .i64 (at2 T.data.toList k : Nat)) ∧ Below w.heap.size w w' := by
 have c0 : w.cell? ⟨g, 0, none⟩ = some (.string T) := B.cell_some (i := 0) rfl
 have h0 : k < T.size := by omega
 have b0 := T[k].toNat_lt
 have b1 := T[k + 1].toNat_lt
 have HV := Lib.hid (show bits .or .i64 ((T[k].toNat : Int) * 256) (T[k + 1].toNat : Int) = ((at2 T.data.toList k : Nat) : Int) from by
  rw [or8 _ _ (by omega) (by omega)]; unfold at2; rw [getD_size _ _ h0, getD_size _ _ hk])
 have e1 : IntKind.i64.wrap ((k : Int) + 1) = (k : Int) + 1 := IntWalk.i64_in _ (by omega)
 have e2 : (0 : Int) ≤ (k : Int) + 1 := by omega
 have e3 : ((k : Int) + 1).toNat = k + 1 := by omega
 have e7 : (k : Int) + 1 < (T.size : Int) := by omega
 have e8 : (k : Int) < (T.size : Int) := by omega
 have e4 : IntKind.i64.wrap (T[k].toNat : Int) = (T[k].toNat : Int) := IntWalk.i64_in _ (by omega)
 have e5 : IntKind.i64.wrap ((T[k].toNat : Int) * 256) = (T[k].toNat : Int) * 256 := IntWalk.i64_in _ (by omega)
 have e6 : IntKind.i64.wrap (T[k + 1].toNat : Int) = (T[k + 1].toNat : Int) := IntWalk.i64_in _ (by omega)
 clear B
 go_enter Tryz.func196, Tryz.ntmps196
 go_wp2_with fail
 go_quiet (fail)
 rw [HV.out]
 go_wp2_with fail
 go_ret
 exact ⟨rfl, Below_drewN (Below.refl _ _) _⟩
/-- a root by value, from a cell -/
theorem results_cell_one {fn : Func} {p : Tmp} {ty : TypeId} (h : fn.results = #[.cell p ty]) (tmps : Array Value) (P : Program) (w : World) :
  (results fn tmps).run P w = ((asAddr (tmps.getD p undef)).run P w).andThen fun a w₁ => (loadVar ty a).run P w₁ := by
 simp only [results, h]
 simp [Sem.run_bind, Result.andThen]
theorem ret_root2 {fn : Func} {p u : Tmp} {w : World} {g : Nat} {a b : Int} {A : Option Addr} {n c : Nat} {tmps : Array Value} (h : fn.results = #[.cell p 125, .tmp u]) (hp : tmps.getD p undef = .pointer (some ⟨g, 0, none⟩)) (B : Blk w g 125 #[.int .i64 a, .int .i64 b, .slice A n c]) :
  (results fn tmps).run Tryz.prog w = .ok (.tuple #[rootV a b A n c, tmps.getD u undef]) w := by
 have c0 := B.cell_some (i := 0) rfl
 have c1 := B.cell_some (i := 1) rfl
 have c2 := B.cell_some (i := 2) rfl
 rw [results_cell_tmp h, hp]
 clear h hp B
 unfold rootV
 go_simp
theorem ret_root {fn : Func} {p : Tmp} {w : World} {g : Nat} {a b : Int} {A : Option Addr} {n c : Nat} {tmps : Array Value} (h : fn.results = #[.cell p 125]) (hp : tmps.getD p undef = .pointer (some ⟨g, 0, none⟩)) (B : Blk w g 125 #[.int .i64 a, .int .i64 b, .slice A n c]) :
  (results fn tmps).run Tryz.prog w = .ok (rootV a b A n c) w := by
 have c0 := B.cell_some (i := 0) rfl
 have c1 := B.cell_some (i := 1) rfl
 have c2 := B.cell_some (i := 2) rfl
 rw [results_cell_one h, hp]
 clear h hp B
 unfold rootV
 go_simp
set_option maxRecDepth 100000 in
set_option maxHeartbeats 2000000 in
theorem ints_any {w : World} (A A' : Option Addr) (n c n' c' : Nat) (l l' : List Int) (h : IntsAt w A n l) (h' : IntsAt w A' n' l') (hn : n ≤ 1000000) (hn' : n' ≤ 1000000) (b : Bool) (hb : b = true ↔ l = l') :
  Calls Tryz.prog 111 #[.slice A n c, .slice A' n' c'] w fun r w' => r = .returned (.bool b) ∧ Below w.heap.size w w' := by
 have hl := Lib.hid h.1
 have hl' := Lib.hid h'.1
 have H0 := Lib.hid h
 have H1 := Lib.hid h'
 have HB := Lib.hid hb
 clear h h' hb
 by_cases hnn : n = n'
 ·subst hnn
  go_enter Tryz.func111, Tryz.ntmps111
  go_wp2_with fail
  go_loopw [5] (fun iv wr => ∃ i : Nat, i ≤ n ∧ iv = .int .i64 i ∧ Hid (∀ j : Nat, j < i → l[j]? = l'[j]?) ∧ Below w.heap.size w wr) (fun iv _ => n - (intOf iv).toNat)
  case atStart => exact ⟨0, Nat.zero_le _, rfl, Lib.hid (fun j h => absurd h (Nat.not_lt_zero _)), Below.refl _ _⟩
  case round =>
   obtain ⟨i, hi, rfl, EQ, O⟩ := hrel
   by_cases h : i < n
   ·obtain ⟨ad, x, rfl, hx, ck⟩ := (H0.out.below O).at i h
    obtain ⟨ad', x', rfl, hx', ck'⟩ := (H1.out.below O).at i h
    have OO := Lib.hid O
    have HE := Lib.hid (And.intro hx hx')
    have hii : (i : Int) < (n : Int) := by omega
    clear O hx hx'
    by_cases hd : x = x'
    ·subst hd
     have HQ := Lib.hid (show ∀ j : Nat, j < i + 1 → l[j]? = l'[j]? from fun j hj => by
      rcases Nat.lt_succ_iff_lt_or_eq.1 hj with h1 | rfl
      ·exact EQ.out j h1
      ·rw [HE.out.1, HE.out.2])
     go_wp2_with fail
     go_quiet (fail)
     go_wp2_with fail
     go_roundw
     case rel => exact ⟨i + 1, by omega, by go_num, HQ, Below_drewN OO.out _⟩
     case measure => simp [intOf]; omega
    ·have HD := Lib.hid (show l ≠ l' from fun hx => by
      have h1 := HE.out.1
      rw [hx, HE.out.2] at h1
      injection h1 with h1
      exact hd h1.symm)
     have hd2 : (x == x') = false := by simpa using hd
     go_wp2_with fail
     go_quiet (fail)
     go_wp2_with fail
     go_ret
     exact ⟨by
      cases b
      ·rfl
      ·exact absurd (HB.out.1 rfl) HD.out, Below_drewN OO.out _⟩
   ·obtain rfl : i = n := by omega
    have OO := Lib.hid O
    clear O
    go_wp2_with fail
    go_ret
    refine ⟨?_, OO.out⟩
    have : l = l' := by
     apply List.ext_getElem?
     intro j
     by_cases hj : j < i
     ·exact EQ.out j hj
     ·rw [List.getElem?_eq_none (by have := hl.out; omega), List.getElem?_eq_none (by have := hl'.out; omega)]
    rw [HB.out.2 this]; rfl
 ·have hd : (n : Int) ≠ (n' : Int) := by omega
  have hd2 : ((n : Int) == (n' : Int)) = false := by simpa using hd
  go_enter Tryz.func111, Tryz.ntmps111
  go_wp2_with fail
  go_ret
  refine ⟨?_, Below.refl _ _⟩
  cases b
  ·rfl
  ·exfalso
   have := HB.out.1 rfl
   have h1 := hl.out
   rw [this, hl'.out] at h1
   exact hnn h1.symm
end Go.Proofs.YtbelcgjbhpjnpaaGreat.Rt

/- roots: the bytes and what they say. -/
namespace Go.Proofs.YtbelcgjbhpjnpaaGreat.Rt
open Go.RowKit Pk
theorem beN_be8 (N : Nat) (h : N < 18446744073709551616) : beN (be8 N) = N := by
 have e : be8 N = [UInt8.ofNat (N / 72057594037927936), UInt8.ofNat (N / 281474976710656), UInt8.ofNat (N / 1099511627776), UInt8.ofNat (N / 4294967296), UInt8.ofNat (N / 16777216), UInt8.ofNat (N / 65536), UInt8.ofNat (N / 256), UInt8.ofNat (N / 1)] := rfl
 rw [e]
 simp only [beN, List.foldl_cons, List.foldl_nil, UInt8.toNat_ofNat']
 omega
theorem packI_length (ep : Int) : (packI ep).length = 8 := by unfold packI be8; rw [beK_length]
theorem packI_back (ep : Int) (h0 : 0 ≤ ep) (h1 : ep ≤ 1099511627776) : (beN (packI ep) : Int) - 9223372036854775808 = ep := by
 unfold packI
 rw [beN_be8 _ (by omega)]
 omega
theorem flat_two (l : List Nat) : (l.flatMap two8).length = 2 * l.length := by
 induction l with
 | nil => rfl
 | cons a l ih => rw [List.flatMap_cons, List.length_append, ih]; simp [two8]; omega
theorem midL_length (lg : Nat) (l : List Nat) (h : l.length ≤ 5) : (midL lg l).length = 44 := by
 unfold midL
 simp only [List.length_append, flat_two, List.length_replicate]
 simp [two8]; omega
theorem layF_length (m : List UInt8) : (Crc.layF m).length = m.length + 4 := by unfold Crc.layF; simp [Crc.fourL]
theorem drop2 (a : Nat) (r : List UInt8) : (two8 a ++ r).drop 2 = r := rfl
theorem drop4 (a b : Nat) (r : List UInt8) : (two8 a ++ (two8 b ++ r)).drop 4 = r := rfl
theorem at2_cons2 (n : Nat) (h : n < 65536) (r : List UInt8) : at2 (two8 n ++ r) 0 = n := by
 unfold at2 two8
 simp only [List.cons_append, List.nil_append, List.getD_cons_zero, List.getD_cons_succ, UInt8.toNat_ofNat']
 omega
theorem at2_drop (b : List UInt8) (j k : Nat) : at2 b (j + k) = at2 (b.drop j) k := by
 unfold at2
 simp only [List.getD_eq_getElem?_getD, List.getElem?_drop, Nat.add_assoc]
theorem at2_flat (l : List Nat) (r : List UInt8) (i : Nat) (h : i < l.length) (hs : ∀ x ∈ l, x < 65536) : at2 (l.flatMap two8 ++ r) (2 * i) = l[i] := by
 induction l generalizing i with
 | nil => simp at h
 | cons a l ih =>
  cases i with
  | zero =>
   rw [List.flatMap_cons, List.append_assoc, Nat.mul_zero, at2_cons2 a (hs a (by simp))]; rfl
  | succ i =>
   rw [show 2 * (i + 1) = 2 + 2 * i by omega, at2_drop]
   have hd : ((a :: l).flatMap two8 ++ r).drop 2 = l.flatMap two8 ++ r := by rw [List.flatMap_cons]; rfl
   rw [hd, ih i (by simpa using h) (fun x hx => hs x (List.mem_cons_of_mem _ hx))]
   rfl
/-- what bytes say -/
def decEp (v : List UInt8) : Int := (beN (v.take 8) : Int) - 9223372036854775808
def decM (v : List UInt8) : List UInt8 := (v.drop 12).take 44
def decP (v : List UInt8) : List Nat := (List.range (at2 (decM v) 2)).map fun i => at2 (decM v) (4 + 2 * i)
def goodR (v : List UInt8) : Prop := at2 (decM v) 2 ≤ 5 ∧ rightR (decEp v) (at2 (decM v) 0 : Nat) (natI (decP v)) ∧ rootL (decEp v) (at2 (decM v) 0) (decP v) = v
theorem rootL_take (ep : Int) (lg : Nat) (l : List Nat) : (rootL ep lg l).take 8 = packI ep := by
 unfold rootL
 rw [List.append_assoc, List.take_append_of_le_length (by rw [packI_length]; exact Nat.le_refl _), List.take_of_length_le (by rw [packI_length]; exact Nat.le_refl _)]
theorem rootL_drop8 (ep : Int) (lg : Nat) (l : List Nat) : (rootL ep lg l).drop 8 = Crc.layF (midL lg l) ++ packI ep := by
 unfold rootL
 rw [List.append_assoc, List.drop_append_of_le_length (by rw [packI_length]; exact Nat.le_refl _), List.drop_of_length_le (by rw [packI_length]; exact Nat.le_refl _), List.nil_append]
theorem rootL_mid (ep : Int) (lg : Nat) (l : List Nat) (h : l.length ≤ 5) : ((rootL ep lg l).drop 8).take 48 = Crc.layF (midL lg l) := by
 have h2 : (Crc.layF (midL lg l)).length = 48 := by rw [layF_length, midL_length _ _ h]
 rw [rootL_drop8, List.take_append_of_le_length (by omega), List.take_of_length_le (by omega)]
theorem rootL_last (ep : Int) (lg : Nat) (l : List Nat) (h : l.length ≤ 5) : (rootL ep lg l).drop 56 = packI ep := by
 have h2 : (Crc.layF (midL lg l)).length = 48 := by rw [layF_length, midL_length _ _ h]
 rw [show 56 = 8 + 48 by rfl, ← List.drop_drop, rootL_drop8, List.drop_append_of_le_length (by omega), List.drop_of_length_le (by omega), List.nil_append]
theorem rootL_length (ep : Int) (lg : Nat) (l : List Nat) (h : l.length ≤ 5) : (rootL ep lg l).length = 64 := by
 unfold rootL
 simp only [List.length_append, packI_length, layF_length, midL_length _ _ h]
theorem decM_root (ep : Int) (lg : Nat) (l : List Nat) (h : l.length ≤ 5) : decM (rootL ep lg l) = midL lg l := by
 unfold decM
 rw [show 12 = 8 + 4 by rfl, ← List.drop_drop, rootL_drop8]
 unfold Crc.layF
 have hm := midL_length lg l h
 have hf : ∀ n, (Crc.fourL n).length = 4 := fun n => by simp [Crc.fourL]
 rw [List.append_assoc, List.drop_append_of_le_length (by rw [hf]; exact Nat.le_refl _), List.drop_of_length_le (by rw [hf]; exact Nat.le_refl _), List.nil_append, List.take_append_of_le_length (by omega), List.take_of_length_le (by omega)]
set_option maxHeartbeats 1000000 in
/-- what was laid is read as it was -/
theorem dec_root (ep : Int) (lg : Nat) (l : List Nat) (hr : rightR ep lg (natI l)) : decEp (rootL ep lg l) = ep ∧ at2 (decM (rootL ep lg l)) 0 = lg ∧ at2 (decM (rootL ep lg l)) 2 = l.length ∧ decP (rootL ep lg l) = l := by
 have h5 : l.length ≤ 5 := by have := rightR_len hr; simpa [natI] using this
 have hep := hr.1
 have hlg : lg ≤ 512 := by have := hr.2.2.2.1; omega
 have hs : ∀ x ∈ l ++ List.replicate (5 - l.length) 0, x < 65536 := by
  intro x hx
  rcases List.mem_append.1 hx with hx | hx
  ·obtain ⟨i, hi, rfl⟩ := List.getElem_of_mem hx
   have h1 := hr.2.2.2.2.2 i ((l[i] : Nat) : Int) (by simp [natI]; exact ⟨l[i], List.getElem?_eq_getElem hi, rfl⟩)
   omega
  ·have := List.eq_of_mem_replicate hx; omega
 have h2 : at2 (midL lg l) 2 = l.length := by
  unfold midL
  rw [show (2 : Nat) = 2 + 0 by rfl, at2_drop, List.append_assoc, List.append_assoc, drop2]
  exact at2_cons2 _ (by omega) _
 have h4 : ∀ i, i < l.length → at2 (midL lg l) (4 + 2 * i) = l.getD i 0 := by
  intro i hi
  unfold midL
  rw [at2_drop, List.append_assoc, List.append_assoc, drop4]
  rw [at2_flat _ _ i (by rw [List.length_append]; omega) hs, List.getElem_append_left hi, List.getD_eq_getElem?_getD, List.getElem?_eq_getElem hi]; rfl
 refine ⟨?_, ?_, ?_, ?_⟩
 ·unfold decEp; rw [rootL_take]; exact packI_back ep (by omega) hr.2.1
 ·rw [decM_root _ _ _ h5]
  unfold midL
  rw [List.append_assoc, List.append_assoc]
  exact at2_cons2 lg (by omega) _
 ·rw [decM_root _ _ _ h5, h2]
 ·unfold decP
  rw [decM_root _ _ _ h5, h2]
  apply List.ext_getElem (by simp)
  intro i h1 h3
  simp only [List.length_map, List.length_range] at h1
  rw [List.getElem_map, List.getElem_range, h4 i h1, List.getD_eq_getElem?_getD, List.getElem?_eq_getElem h1]; rfl
theorem good_root (ep : Int) (lg : Nat) (l : List Nat) (hr : rightR ep lg (natI l)) : goodR (rootL ep lg l) := by
 obtain ⟨h1, h2, h3, h4⟩ := dec_root ep lg l hr
 have h5 : l.length ≤ 5 := by have := rightR_len hr; simpa [natI] using this
 exact ⟨by rw [h3]; exact h5, by rw [h1, h2, h4]; exact hr, by rw [h1, h2, h4]⟩
theorem good_crc {v : List UInt8} (h : goodR v) : Crc.fourL (Crc.sumF ((((v.drop 8).take 48)).drop 4)) = ((v.drop 8).take 48).take 4 ∧ v.take 8 = v.drop 56 := by
 have h5 : (decP v).length ≤ 5 := by unfold decP; simp; exact h.1
 have hv := h.2.2
 generalize decEp v = ep at hv
 generalize at2 (decM v) 0 = lg at hv
 generalize decP v = l at hv h5
 subst hv
 rw [rootL_mid _ _ _ h5, rootL_take, rootL_last _ _ _ h5]
 refine ⟨?_, rfl⟩
 unfold Crc.layF
 have hf : ∀ n, (Crc.fourL n).length = 4 := fun n => by simp [Crc.fourL]
 rw [List.drop_append_of_le_length (by rw [hf]; exact Nat.le_refl _), List.drop_of_length_le (by rw [hf]; exact Nat.le_refl _), List.nil_append, List.take_append_of_le_length (by rw [hf]; exact Nat.le_refl _), List.take_of_length_le (by rw [hf]; exact Nat.le_refl _)]
end Go.Proofs.YtbelcgjbhpjnpaaGreat.Rt

/- roots: a table's parts. -/
namespace Go.Proofs.YtbelcgjbhpjnpaaGreat.Rt
open Go.RowKit Pk
attribute [local go_sem ↓] Go.wp_at_zero Go.wp_at_succ
/-- a page's number in a table, as it is laid -/
def num1 (x : Int) : Nat := (max x (-1) + 1).toNat
def partF (l : List Int) : List UInt8 := (l.map num1).flatMap two8
def segF (l : List Int) (p : Nat) : List Int := (l.drop (116 * p)).take 116
theorem segF_length (l : List Int) (p : Nat) : (segF l p).length = min 116 (l.length - 116 * p) := by simp [segF]
theorem segF_get (l : List Int) (p i : Nat) (h : i < 116) : (segF l p)[i]? = l[116 * p + i]? := by
 unfold segF
 rw [List.getElem?_take, if_pos h, List.getElem?_drop]
/-- one number more -/
theorem part_step {w : World} {ad : Addr} {n m p i : Nat} {l : List Int} (h : IntsAt w (some ad) n l) (hm1 : m ≤ 116) (hm2 : 116 * p + m ≤ n) (hi : i < m) :
  ∃ x, w.cell? ((ad.add (p * 116)).add i) = some (.int .i64 x) ∧ (segF l p).take (i + 1) = (segF l p).take i ++ [x] ∧ partF ((segF l p).take (i + 1)) = partF ((segF l p).take i) ++ two8 (num1 x) ∧ x ∈ segF l p := by
 obtain ⟨ad', x, e, hx, ck⟩ := h.at (116 * p + i) (by omega)
 cases e
 have hl := h.1
 have hg : (segF l p)[i]? = some x := by rw [segF_get _ _ _ (by omega)]; exact hx
 obtain ⟨hlt, hge⟩ := List.getElem?_eq_some_iff.1 hg
 have ht : (segF l p).take (i + 1) = (segF l p).take i ++ [x] := by rw [List.take_succ_eq_append_getElem hlt, hge]
 refine ⟨x, ?_, ht, ?_, List.mem_of_getElem? hg⟩
 ·rw [add_of_add, show p * 116 + i = 116 * p + i by omega]; exact ck
 ·rw [ht]; unfold partF; rw [List.map_append, List.flatMap_append]; simp
set_option maxRecDepth 100000 in
set_option maxHeartbeats 4000000 in
theorem putpart_any {w : World} (A : Option Addr) (n c : Nat) (l : List Int) (h : IntsAt w A n l) (hn : n ≤ 1000000) (hnc : n ≤ c) (p : Nat) (hp : 116 * p < n) :
  Calls Tryz.prog 166 #[.slice A n c, .int .i64 (p : Nat)] w fun e w' => (((∃ x ∈ segF l p, 1023 < x) ∧ e = .returned (.tuple #[.string ⟨#[]⟩, .int .i64 2])) ∨ ((∀ x ∈ segF l p, x ≤ 1023) ∧ e = .returned (.tuple #[.string ⟨(partF (segF l p)).toArray⟩, .int .i64 0]))) ∧ Below w.heap.size w w' := by
 have hneed : (p : Int) < needF n := by unfold needF; omega
 have h1 : ¬ (p : Int) < 0 := by omega
 have h2 : ¬ (p : Int) ≥ needF n := by omega
 have h2b : ¬ needF n ≤ (p : Int) := by omega
 have KN := Lib.hid (need_any (n : Int) (by omega) w)
 have HL := Lib.hid h.1
 have HI := Lib.hid h
 obtain ⟨ad, x0, rfl, _, _⟩ := h.at 0 (by omega)
 obtain ⟨m, hm⟩ : ∃ m, m = min 116 (n - 116 * p) := ⟨_, rfl⟩
 have HM := Lib.hid hm
 have hm1 : m ≤ 116 := by omega
 have hm2 : 116 * p + m ≤ n := by omega
 clear h hm
 generalize needF n = nd at *
 have e1 : IntKind.i64.wrap ((p : Int) * 116) = (p : Int) * 116 := IntWalk.i64_in _ (by omega)
 have e2 : IntKind.i64.wrap ((p : Int) + 1) = (p : Int) + 1 := IntWalk.i64_in _ (by omega)
 have e3 : IntKind.i64.wrap (((p : Int) + 1) * 116) = ((p : Int) + 1) * 116 := IntWalk.i64_in _ (by omega)
 go_enter Tryz.func166, Tryz.ntmps166
 go_wp2_with fail
 refine KN.out.mono ?_
 rintro e w1 ⟨rfl, hb1⟩
 have O1 := Lib.hid hb1
 clear hb1 KN
 go_wp2_with fail
 ·rw [show n - p * 116 = m from by have := HM.out; omega]
  go_loopw [6, 29] (fun bv iv wr => ∃ i : Nat, i ≤ m ∧ iv = .int .i64 i ∧ Slc wr 5 1 bv (2 * i) (bvs (partF ((segF l p).take i))) ∧ Hid (∀ x ∈ (segF l p).take i, x ≤ 1023) ∧ Below w.heap.size w wr ∧ Hid (∀ g ∈ ownB bv, w.heap.size ≤ g)) (fun _ iv _ => m - (intOf iv).toNat)
  case atStart => exact ⟨0, Nat.zero_le _, rfl, Slc.nil _ _ _, Lib.hid (by simp), O1.out, Lib.hid (by simp [ownB])⟩
  case round =>
   obtain ⟨i, hi, rfl, S, GD, O, F⟩ := hrel
   by_cases h' : i < m
   ·obtain ⟨x, ck, ht, hp2, hmem⟩ := part_step (HI.out.below O) hm1 hm2 h'
    have OO := Lib.hid O
    have HT := Lib.hid ht
    have HP := Lib.hid hp2
    have HX := Lib.hid hmem
    clear O ht hp2 hmem
    have hiI : (i : Int) < (m : Int) := by omega
    by_cases hx : 1023 < x
    ·go_wp2_with fail
     go_ret2
     exact ⟨.inl ⟨⟨x, HX.out, hx⟩, rfl⟩, OO.out⟩
    ·obtain ⟨BA, bc, rfl⟩ := slc_val S
     have KT := Lib.hid (two_any _ (2 * i) _ S (num1 x) (by unfold num1; omega) (by omega))
     have G2 := Lib.hid (show ∀ y ∈ (segF l p).take (i + 1), y ≤ 1023 from by
      rw [HT.out]; intro y hy
      rcases List.mem_append.1 hy with hy | hy
      ·exact GD.out y hy
      ·simp at hy; omega)
     clear S
     by_cases hneg : x < -1
     ·rw [show ((num1 x : Nat) : Int) = 0 from by unfold num1; omega] at KT
      go_wp2_with fail
      refine KT.out.mono ?_
      rintro e w2 ⟨⟨v2, rfl, S2, fr⟩, ow⟩
      rw [← HP.out] at S2
      have S2 := Lib.hid S2
      have O2 := Lib.hid (OO.out.trans (ow.below_of OO.out.size F.out))
      have F2 := Lib.hid (show ∀ g ∈ ownB v2, w.heap.size ≤ g from fun g hg => (fr g hg).elim (F.out g) (fun h => Nat.le_trans OO.out.size h))
      clear fr ow
      go_wp2_with fail
      go_roundw
      case rel => exact ⟨i + 1, by omega, by go_num, S2.out, G2, O2.out, F2⟩
      case measure => simp [intOf]; omega
     ·rw [show ((num1 x : Nat) : Int) = x + 1 from by unfold num1; omega] at KT
      go_wp2_with fail
      refine KT.out.mono ?_
      rintro e w2 ⟨⟨v2, rfl, S2, fr⟩, ow⟩
      rw [← HP.out] at S2
      have S2 := Lib.hid S2
      have O2 := Lib.hid (OO.out.trans (ow.below_of OO.out.size F.out))
      have F2 := Lib.hid (show ∀ g ∈ ownB v2, w.heap.size ≤ g from fun g hg => (fr g hg).elim (F.out g) (fun h => Nat.le_trans OO.out.size h))
      clear fr ow
      go_wp2_with fail
      go_roundw
      case rel => exact ⟨i + 1, by omega, by go_num, S2.out, G2, O2.out, F2⟩
      case measure => simp [intOf]; omega
   ·obtain rfl : i = m := by omega
    have hseg : (segF l p).take i = segF l p := List.take_of_length_le (by rw [segF_length, HL.out]; have := HM.out; omega)
    rw [hseg] at S
    have G2 := Lib.hid (show ∀ y ∈ segF l p, y ≤ 1023 from by have := GD.out; rwa [hseg] at this)
    obtain ⟨g, cap, rest, rfl, B, hc, _⟩ := S.form (by have := HM.out; omega) (by omega)
    have ST := Lib.hid (run_string_of (P := Tryz.prog) wr 141 9 5 Tryz.underlying141 Tryz.underlying5 Tryz.underlying9 ⟨g, 0, none⟩ (2 * i) cap (partF (segF l p)) (by have := S.1; simpa using this) (cells_at B 0 _ (by intro j u hu; rw [Nat.zero_add]; exact List.getElem?_append_left (List.getElem?_eq_some_iff.1 hu).1 ▸ hu)))
    have OO := Lib.hid O
    clear O S B hseg
    go_wp2_with fail
    rw [ST.out]
    go_wp2_with fail
    go_ret2
    exact ⟨.inr ⟨G2.out, rfl⟩, OO.out⟩
 ·rw [show ((((p : Int) + 1) * 116).toNat - p * 116) = m from by have := HM.out; omega]
  go_loopw [6, 29] (fun bv iv wr => ∃ i : Nat, i ≤ m ∧ iv = .int .i64 i ∧ Slc wr 5 1 bv (2 * i) (bvs (partF ((segF l p).take i))) ∧ Hid (∀ x ∈ (segF l p).take i, x ≤ 1023) ∧ Below w.heap.size w wr ∧ Hid (∀ g ∈ ownB bv, w.heap.size ≤ g)) (fun _ iv _ => m - (intOf iv).toNat)
  case atStart => exact ⟨0, Nat.zero_le _, rfl, Slc.nil _ _ _, Lib.hid (by simp), O1.out, Lib.hid (by simp [ownB])⟩
  case round =>
   obtain ⟨i, hi, rfl, S, GD, O, F⟩ := hrel
   by_cases h' : i < m
   ·obtain ⟨x, ck, ht, hp2, hmem⟩ := part_step (HI.out.below O) hm1 hm2 h'
    have OO := Lib.hid O
    have HT := Lib.hid ht
    have HP := Lib.hid hp2
    have HX := Lib.hid hmem
    clear O ht hp2 hmem
    have hiI : (i : Int) < (m : Int) := by omega
    by_cases hx : 1023 < x
    ·go_wp2_with fail
     go_ret2
     exact ⟨.inl ⟨⟨x, HX.out, hx⟩, rfl⟩, OO.out⟩
    ·obtain ⟨BA, bc, rfl⟩ := slc_val S
     have KT := Lib.hid (two_any _ (2 * i) _ S (num1 x) (by unfold num1; omega) (by omega))
     have G2 := Lib.hid (show ∀ y ∈ (segF l p).take (i + 1), y ≤ 1023 from by
      rw [HT.out]; intro y hy
      rcases List.mem_append.1 hy with hy | hy
      ·exact GD.out y hy
      ·simp at hy; omega)
     clear S
     by_cases hneg : x < -1
     ·rw [show ((num1 x : Nat) : Int) = 0 from by unfold num1; omega] at KT
      go_wp2_with fail
      refine KT.out.mono ?_
      rintro e w2 ⟨⟨v2, rfl, S2, fr⟩, ow⟩
      rw [← HP.out] at S2
      have S2 := Lib.hid S2
      have O2 := Lib.hid (OO.out.trans (ow.below_of OO.out.size F.out))
      have F2 := Lib.hid (show ∀ g ∈ ownB v2, w.heap.size ≤ g from fun g hg => (fr g hg).elim (F.out g) (fun h => Nat.le_trans OO.out.size h))
      clear fr ow
      go_wp2_with fail
      go_roundw
      case rel => exact ⟨i + 1, by omega, by go_num, S2.out, G2, O2.out, F2⟩
      case measure => simp [intOf]; omega
     ·rw [show ((num1 x : Nat) : Int) = x + 1 from by unfold num1; omega] at KT
      go_wp2_with fail
      refine KT.out.mono ?_
      rintro e w2 ⟨⟨v2, rfl, S2, fr⟩, ow⟩
      rw [← HP.out] at S2
      have S2 := Lib.hid S2
      have O2 := Lib.hid (OO.out.trans (ow.below_of OO.out.size F.out))
      have F2 := Lib.hid (show ∀ g ∈ ownB v2, w.heap.size ≤ g from fun g hg => (fr g hg).elim (F.out g) (fun h => Nat.le_trans OO.out.size h))
      clear fr ow
      go_wp2_with fail
      go_roundw
      case rel => exact ⟨i + 1, by omega, by go_num, S2.out, G2, O2.out, F2⟩
      case measure => simp [intOf]; omega
   ·obtain rfl : i = m := by omega
    have hseg : (segF l p).take i = segF l p := List.take_of_length_le (by rw [segF_length, HL.out]; have := HM.out; omega)
    rw [hseg] at S
    have G2 := Lib.hid (show ∀ y ∈ segF l p, y ≤ 1023 from by have := GD.out; rwa [hseg] at this)
    obtain ⟨g, cap, rest, rfl, B, hc, _⟩ := S.form (by have := HM.out; omega) (by omega)
    have ST := Lib.hid (run_string_of (P := Tryz.prog) wr 141 9 5 Tryz.underlying141 Tryz.underlying5 Tryz.underlying9 ⟨g, 0, none⟩ (2 * i) cap (partF (segF l p)) (by have := S.1; simpa using this) (cells_at B 0 _ (by intro j u hu; rw [Nat.zero_add]; exact List.getElem?_append_left (List.getElem?_eq_some_iff.1 hu).1 ▸ hu)))
    have OO := Lib.hid O
    clear O S B hseg
    go_wp2_with fail
    rw [ST.out]
    go_wp2_with fail
    go_ret2
    exact ⟨.inr ⟨G2.out, rfl⟩, OO.out⟩
end Go.Proofs.YtbelcgjbhpjnpaaGreat.Rt

/- roots: a part of a table, read. -/
namespace Go.Proofs.YtbelcgjbhpjnpaaGreat.Rt
open Go.RowKit Pk
attribute [local go_sem ↓] Go.wp_at_zero Go.wp_at_succ exec_app
theorem info_int1 : (Tryz.prog.info? 3).map (fun i => (i.zero, i.size, i.bytes)) = some (some (.int .i64 0), 1, 8) := by kernel_rfl
/-- numbers as values -/
def nvs (l : List Int) : List Value := l.map (Value.int .i64)
@[simp] theorem nvs_length (l : List Int) : (nvs l).length = l.length := by simp [nvs]
def getF (T : List UInt8) (m : Nat) : List Int := (List.range m).map fun j => (at2 T (2 * j) : Int) - 1
theorem getF_succ (T : List UInt8) (m : Nat) : getF T (m + 1) = getF T m ++ [(at2 T (2 * m) : Int) - 1] := by
 unfold getF
 rw [List.range_succ, List.map_append]; rfl
@[simp] theorem getF_length (T : List UInt8) (m : Nat) : (getF T m).length = m := by simp [getF]
set_option maxRecDepth 100000 in
set_option maxHeartbeats 4000000 in
theorem getpart_any (T : ByteArray) (m : Nat) (hm : m ≤ 116) (hT : 2 * m ≤ T.size) (hs : T.size ≤ 1000000) (w : World) :
  Calls Tryz.prog 155 #[.string T, .int .i64 (m : Nat)] w fun e w' => (((∃ j, j < m ∧ 1024 < at2 T.data.toList (2 * j)) ∧ e = .returned (.tuple #[.slice none 0 0, .int .i64 14])) ∨ ((∀ j, j < m → at2 T.data.toList (2 * j) ≤ 1024) ∧ ∃ v, e = .returned (.tuple #[v, .int .i64 0]) ∧ Slc w' 3 1 v m (nvs (getF T.data.toList m)) ∧ ∀ g ∈ ownB v, w.heap.size ≤ g)) ∧ Below w.heap.size w w' := by
 have h1 : ¬ (m : Int) < 0 := by omega
 have h2 : ¬ (116 : Int) < (m : Int) := by omega
 have e1 : IntKind.i64.wrap (2 * (m : Int)) = 2 * (m : Int) := IntWalk.i64_in _ (by omega)
 have h3 : ¬ (T.size : Int) < 2 * (m : Int) := by omega
 go_enter Tryz.func155, Tryz.ntmps155
 go_wp2_with fail
 go_loopw [6, 23] (fun bv iv wr => ∃ i : Nat, i ≤ m ∧ iv = .int .i64 i ∧ Slc wr 3 1 bv i (nvs (getF T.data.toList i)) ∧ Hid (∀ j, j < i → at2 T.data.toList (2 * j) ≤ 1024) ∧ Below w.heap.size w wr ∧ Hid (∀ g ∈ ownB bv, w.heap.size ≤ g)) (fun _ iv _ => m - (intOf iv).toNat)
 case atStart => exact ⟨0, Nat.zero_le _, rfl, Slc.nil _ _ _, Lib.hid (by intro j hj; omega), Below.refl _ _, Lib.hid (by simp [ownB])⟩
 case round =>
  obtain ⟨i, hi, rfl, S, GD, O, F⟩ := hrel
  by_cases h' : i < m
  ·have hiI : (i : Int) < (m : Int) := by omega
   have h0 : 2 * i < T.size := by omega
   have hk : 2 * i + 1 < T.size := by omega
   have b0 := T[2 * i].toNat_lt
   have b1 := T[2 * i + 1].toNat_lt
   have HV := Lib.hid (show bits .or .i64 ((T[2 * i].toNat : Int) * 256) (T[2 * i + 1].toNat : Int) = ((at2 T.data.toList (2 * i) : Nat) : Int) from by
    rw [or8 _ _ (by omega) (by omega)]; unfold at2; rw [getD_size _ _ h0, getD_size _ _ hk])
   have f1 : IntKind.i64.wrap (2 * (i : Int)) = 2 * (i : Int) := IntWalk.i64_in _ (by omega)
   have f2 : IntKind.i64.wrap (2 * (i : Int) + 1) = 2 * (i : Int) + 1 := IntWalk.i64_in _ (by omega)
   have f3 : (0 : Int) ≤ 2 * (i : Int) := by omega
   have f4 : (0 : Int) ≤ 2 * (i : Int) + 1 := by omega
   have f5 : (2 * (i : Int)).toNat = 2 * i := by omega
   have f6 : (2 * (i : Int) + 1).toNat = 2 * i + 1 := by omega
   have f7 : 2 * (i : Int) < (T.size : Int) := by omega
   have f8 : 2 * (i : Int) + 1 < (T.size : Int) := by omega
   have e4 : IntKind.i64.wrap (T[2 * i].toNat : Int) = (T[2 * i].toNat : Int) := IntWalk.i64_in _ (by omega)
   have e5 : IntKind.i64.wrap ((T[2 * i].toNat : Int) * 256) = (T[2 * i].toNat : Int) * 256 := IntWalk.i64_in _ (by omega)
   have e6 : IntKind.i64.wrap (T[2 * i + 1].toNat : Int) = (T[2 * i + 1].toNat : Int) := IntWalk.i64_in _ (by omega)
   go_wp2_with fail
   go_quiet (fail)
   rw [HV.out]
   have hlt := at2_lt T.data.toList (2 * i)
   generalize hav : at2 T.data.toList (2 * i) = av at *
   have HA := Lib.hid hav
   clear HV hav
   by_cases hbig : 1024 < av
   ·have hbI : (1024 : Int) < (av : Int) := by omega
    have OO := Lib.hid (Below_drewN O nq)
    clear O
    go_wp2_with fail
    go_ret2
    refine ⟨.inl ⟨⟨i, h', by rw [HA.out]; exact hbig⟩, rfl⟩, ?_⟩
    exact OO.out
   ·have hbI : ¬ (1024 : Int) < (av : Int) := by omega
    have eW : IntKind.i64.wrap ((av : Int) - 1) = (av : Int) - 1 := IntWalk.i64_in _ (by omega)
    obtain ⟨BA, bc, rfl⟩ := slc_val S
    have O1 := Below_drewN O nq
    have S1 := S.drewN nq
    clear O S
    have WD : ∃ W, W = wr.drewN nq := ⟨_, rfl⟩
    obtain ⟨W, hW⟩ := WD
    rw [← hW] at O1 S1
    obtain ⟨v', w2, ea, S2, ow, fr⟩ := append_one (P := Tryz.prog) S1 52 52 (.int .i64 0) 8 Tryz.underlying52 info_int1 rfl (.int .i64 ((av : Int) - 1)) rfl (by unfold maxLen; omega) (by omega)
    obtain ⟨V2, vc2, rfl⟩ := slc_val S2
    have hsz : W.heap.size = wr.heap.size := by rw [hW]; rfl
    rw [hsz] at ea
    have EA := Lib.hid ea
    have SX := Lib.hid (show Slc w2 3 1 (.slice V2 (i + 1) vc2) (i + 1) (nvs (getF T.data.toList (i + 1))) from by
     rw [getF_succ, HA.out]; unfold nvs at S2 ⊢; rw [List.map_append]; exact S2)
    have OX := Lib.hid (O1.trans (ow.below_of O1.size F.out))
    have FX := Lib.hid (show ∀ x ∈ ownB (.slice V2 (i + 1) vc2), w.heap.size ≤ x from fun x hx => (fr x hx).elim (F.out x) (fun h => Nat.le_trans O1.size h))
    have G2 := Lib.hid (show ∀ j, j < i + 1 → at2 T.data.toList (2 * j) ≤ 1024 from fun j hj => by
     rcases Nat.lt_succ_iff_lt_or_eq.1 hj with h | rfl
     ·exact GD.out j h
     ·rw [HA.out]; omega)
    clear ea S2 ow fr O1 S1 hsz
    have HW := Lib.hid hW
    clear hW
    go_wp2_with fail
    rw [← HW.out]
    rw [EA.out]
    go_wp2_with fail
    go_roundw
    case rel => exact ⟨i + 1, by omega, by go_num, SX.out, G2, OX.out, FX⟩
    case measure => simp [intOf]; omega
  ·obtain rfl : i = m := by omega
   have OO := Lib.hid O
   have SS := Lib.hid S
   obtain ⟨BA, bc, rfl⟩ := slc_val S
   clear S O
   go_wp2_with fail
   go_ret2
   exact ⟨.inr ⟨GD.out, _, rfl, SS.out, F.out⟩, OO.out⟩
end Go.Proofs.YtbelcgjbhpjnpaaGreat.Rt
