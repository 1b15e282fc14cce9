/- roots: bytes read. -/
import Derived.Test.YtemcamhkacaoiaaRt4
import Derived.Deep.QuietTactic
namespace Go.Proofs.Ytemcamhkacaoiaa.Rt
open Go.RowKit Pk
attribute [local go_sem ↓] Go.wp_at_zero Go.wp_at_succ
def at2 (b : List UInt8) (k : Nat) : Nat := (b.getD k 0).toNat * 256 + (b.getD (k + 1) 0).toNat
theorem at2_lt (b : List UInt8) (k : Nat) : at2 b k < 65536 := by
  unfold at2
  have := (b.getD k 0).toNat_lt
  have := (b.getD (k + 1) 0).toNat_lt
  omega
theorem or8 (a b : Nat) (ha : a < 256) (hb : b < 256) : bits .or .i64 ((a : Int) * 256) (b : Int) = ((a * 256 + b : Nat) : Int) := by
  rw [bits_join .i64 32 (by decide) (fun n h0 h1 => IntWalk.i64_in n (by omega)) 8 _ _ (by omega) (by omega) (by omega) (by omega) (by omega) (by omega)]
  omega
theorem getD_size (s : ByteArray) (k : Nat) (h : k < s.size) : s.data.toList.getD k 0 = s[k] := by
  have : k < s.data.toList.length := by simpa using h
  simp [List.getD, List.getElem?_eq_getElem this]; rfl
set_option maxRecDepth 100000 in
set_option maxHeartbeats 1000000 in
theorem get1_any {w : World} {g : Nat} {T : ByteArray} (B : Blk w g 9 #[.string T]) (k : Nat) (hk : k + 1 < T.size) (hs : T.size ≤ 1000) :
    Calls Try.prog 21 #[.int .i64 (k : Int), .pointer (some ⟨g, 0, none⟩)] w fun e w' => e = .returned (.int .i64 (at2 T.data.toList k : Nat)) ∧ Below w.heap.size w w' := by
  have c0 : w.cell? ⟨g, 0, none⟩ = some (.string T) := B.cell_some (i := 0) rfl
  have h0 : k < T.size := by omega
  have b0 := T[k].toNat_lt
  have b1 := T[k + 1].toNat_lt
  have HV := Lib.hid (show bits .or .i64 ((T[k].toNat : Int) * 256) (T[k + 1].toNat : Int) = ((at2 T.data.toList k : Nat) : Int) from by
    rw [or8 _ _ (by omega) (by omega)]; unfold at2; rw [getD_size _ _ h0, getD_size _ _ hk])
  have e1 : IntKind.i64.wrap ((k : Int) + 1) = (k : Int) + 1 := IntWalk.i64_in _ (by omega)
  have e2 : (0 : Int) ≤ (k : Int) + 1 := by omega
  have e3 : ((k : Int) + 1).toNat = k + 1 := by omega
  have e7 : (k : Int) + 1 < (T.size : Int) := by omega
  have e8 : (k : Int) < (T.size : Int) := by omega
  have e4 : IntKind.i64.wrap (T[k].toNat : Int) = (T[k].toNat : Int) := IntWalk.i64_in _ (by omega)
  have e5 : IntKind.i64.wrap ((T[k].toNat : Int) * 256) = (T[k].toNat : Int) * 256 := IntWalk.i64_in _ (by omega)
  have e6 : IntKind.i64.wrap (T[k + 1].toNat : Int) = (T[k + 1].toNat : Int) := IntWalk.i64_in _ (by omega)
  clear B
  go_enter Try.func21, Try.ntmps21
  go_wp2_with fail
  go_quiet (fail)
  rw [HV.out]
  go_wp2_with fail
  go_ret
  exact ⟨rfl, Below_drewN (Below.refl _ _) _⟩
/-- a root by value, from a cell -/
theorem results_cell_one {fn : Func} {p : Tmp} {ty : TypeId} (h : fn.results = #[.cell p ty]) (tmps : Array Value) (P : Program) (w : World) :
    (results fn tmps).run P w = ((asAddr (tmps.getD p undef)).run P w).andThen fun a w₁ => (loadVar ty a).run P w₁ := by
  simp only [results, h]
  simp [Sem.run_bind, Result.andThen]
theorem ret_root2 {fn : Func} {p u : Tmp} {w : World} {g : Nat} {a b : Int} {A : Option Addr} {n c : Nat} {tmps : Array Value} (h : fn.results = #[.cell p 29, .tmp u]) (hp : tmps.getD p undef = .pointer (some ⟨g, 0, none⟩)) (B : Blk w g 29 #[.int .i64 a, .int .i64 b, .slice A n c]) :
    (results fn tmps).run Try.prog w = .ok (.tuple #[rootV a b A n c, tmps.getD u undef]) w := by
  have c0 := B.cell_some (i := 0) rfl
  have c1 := B.cell_some (i := 1) rfl
  have c2 := B.cell_some (i := 2) rfl
  rw [results_cell_tmp h, hp]
  clear h hp B
  unfold rootV
  go_simp
theorem ret_root {fn : Func} {p : Tmp} {w : World} {g : Nat} {a b : Int} {A : Option Addr} {n c : Nat} {tmps : Array Value} (h : fn.results = #[.cell p 29]) (hp : tmps.getD p undef = .pointer (some ⟨g, 0, none⟩)) (B : Blk w g 29 #[.int .i64 a, .int .i64 b, .slice A n c]) :
    (results fn tmps).run Try.prog w = .ok (rootV a b A n c) w := by
  have c0 := B.cell_some (i := 0) rfl
  have c1 := B.cell_some (i := 1) rfl
  have c2 := B.cell_some (i := 2) rfl
  rw [results_cell_one h, hp]
  clear h hp B
  unfold rootV
  go_simp
theorem ret_rroot {fn : Func} {p : Tmp} {w : World} {g : Nat} {a b : Int} {A : Option Addr} {n c : Nat} {tmps : Array Value} (h : fn.results = #[.cell p 24]) (hp : tmps.getD p undef = .pointer (some ⟨g, 0, none⟩)) (B : Blk w g 24 #[.int .i64 a, .int .i64 b, .slice A n c]) :
    (results fn tmps).run Try.prog w = .ok (rootV a b A n c) w := by
  have c0 := B.cell_some (i := 0) rfl
  have c1 := B.cell_some (i := 1) rfl
  have c2 := B.cell_some (i := 2) rfl
  rw [results_cell_one h, hp]
  clear h hp B
  unfold rootV
  go_simp
set_option maxHeartbeats 1000000 in
theorem to13_any {w : World} (a b : Int) (A : Option Addr) (n c : Nat) :
    Calls Try.prog 7 #[rootV a b A n c] w fun e w' => e = .returned (rootV a b A n c) ∧ Below w.heap.size w w' := by
  have B1 := Lib.hid ((Blk.new w 24 #[.int .i64 a, .int .i64 b, .slice A n c]).alloc (.cells #[.int .i64 0, .int .i64 0, .slice none 0 0] 29))
  have c0 : ((w.alloc (.cells #[.int .i64 a, .int .i64 b, .slice A n c] 24)).alloc (.cells #[.int .i64 0, .int .i64 0, .slice none 0 0] 29)).cell? ⟨w.heap.size, 0, none⟩ = some (.int .i64 a) := B1.out.cell_some (i := 0) rfl
  have c1 : ((w.alloc (.cells #[.int .i64 a, .int .i64 b, .slice A n c] 24)).alloc (.cells #[.int .i64 0, .int .i64 0, .slice none 0 0] 29)).cell? ⟨w.heap.size, 1, none⟩ = some (.int .i64 b) := B1.out.cell_some (i := 1) rfl
  have c2 : ((w.alloc (.cells #[.int .i64 a, .int .i64 b, .slice A n c] 24)).alloc (.cells #[.int .i64 0, .int .i64 0, .slice none 0 0] 29)).cell? ⟨w.heap.size, 2, none⟩ = some (.slice A n c) := B1.out.cell_some (i := 2) rfl
  have B2 := Blk.new (w.alloc (.cells #[.int .i64 a, .int .i64 b, .slice A n c] 24)) 29 #[.int .i64 a, .int .i64 b, .slice A n c]
  rw [asz] at B2
  have B2 := Lib.hid B2
  have O2 := Lib.hid (belowAlloc (belowAlloc (Below.refl w.heap.size w) (.cells #[.int .i64 a, .int .i64 b, .slice A n c] 24)) (.cells #[.int .i64 a, .int .i64 b, .slice A n c] 29))
  unfold rootV
  go_enter Try.func7, Try.ntmps7
  go_wp2_with fail
  exact bodyPost_ret (ret_root rfl rfl B2.out) rfl ⟨rfl, O2.out⟩
set_option maxHeartbeats 1000000 in
theorem of13_any {w : World} (a b : Int) (A : Option Addr) (n c : Nat) :
    Calls Try.prog 10 #[rootV a b A n c] w fun e w' => e = .returned (rootV a b A n c) ∧ Below w.heap.size w w' := by
  have B1 := Lib.hid ((Blk.new w 29 #[.int .i64 a, .int .i64 b, .slice A n c]).alloc (.cells #[.int .i64 0, .int .i64 0, .slice none 0 0] 24))
  have c0 : ((w.alloc (.cells #[.int .i64 a, .int .i64 b, .slice A n c] 29)).alloc (.cells #[.int .i64 0, .int .i64 0, .slice none 0 0] 24)).cell? ⟨w.heap.size, 0, none⟩ = some (.int .i64 a) := B1.out.cell_some (i := 0) rfl
  have c1 : ((w.alloc (.cells #[.int .i64 a, .int .i64 b, .slice A n c] 29)).alloc (.cells #[.int .i64 0, .int .i64 0, .slice none 0 0] 24)).cell? ⟨w.heap.size, 1, none⟩ = some (.int .i64 b) := B1.out.cell_some (i := 1) rfl
  have c2 : ((w.alloc (.cells #[.int .i64 a, .int .i64 b, .slice A n c] 29)).alloc (.cells #[.int .i64 0, .int .i64 0, .slice none 0 0] 24)).cell? ⟨w.heap.size, 2, none⟩ = some (.slice A n c) := B1.out.cell_some (i := 2) rfl
  have B2 := Blk.new (w.alloc (.cells #[.int .i64 a, .int .i64 b, .slice A n c] 29)) 24 #[.int .i64 a, .int .i64 b, .slice A n c]
  rw [asz] at B2
  have B2 := Lib.hid B2
  have O2 := Lib.hid (belowAlloc (belowAlloc (Below.refl w.heap.size w) (.cells #[.int .i64 a, .int .i64 b, .slice A n c] 29)) (.cells #[.int .i64 a, .int .i64 b, .slice A n c] 24))
  unfold rootV
  go_enter Try.func10, Try.ntmps10
  go_wp2_with fail
  exact bodyPost_ret (ret_rroot rfl rfl B2.out) rfl ⟨rfl, O2.out⟩
set_option maxRecDepth 100000 in
set_option maxHeartbeats 2000000 in
theorem ints_any {w : World} (A A' : Option Addr) (n c n' c' : Nat) (l l' : List Int) (h : IntsAt w A n l) (h' : IntsAt w A' n' l') (hn : n ≤ 1000000) (hn' : n' ≤ 1000000) (b : Bool) (hb : b = true ↔ l = l') :
    Calls Try.prog 22 #[.slice A n c, .slice A' n' c'] w fun r w' => r = .returned (.bool b) ∧ Below w.heap.size w w' := by
  have hl := Lib.hid h.1
  have hl' := Lib.hid h'.1
  have H0 := Lib.hid h
  have H1 := Lib.hid h'
  have HB := Lib.hid hb
  clear h h' hb
  by_cases hnn : n = n'
  · subst hnn
    go_enter Try.func22, Try.ntmps22
    go_wp2_with fail
    go_loopw [5] (fun iv wr => ∃ i : Nat, i ≤ n ∧ iv = .int .i64 i ∧ Hid (∀ j : Nat, j < i → l[j]? = l'[j]?) ∧ Below w.heap.size w wr) (fun iv _ => n - (intOf iv).toNat)
    case atStart => exact ⟨0, Nat.zero_le _, rfl, Lib.hid (fun j h => absurd h (Nat.not_lt_zero _)), Below.refl _ _⟩
    case round =>
      obtain ⟨i, hi, rfl, EQ, O⟩ := hrel
      by_cases h : i < n
      · obtain ⟨ad, x, rfl, hx, ck⟩ := (H0.out.below O).at i h
        obtain ⟨ad', x', rfl, hx', ck'⟩ := (H1.out.below O).at i h
        have OO := Lib.hid O
        have HE := Lib.hid (And.intro hx hx')
        have hii : (i : Int) < (n : Int) := by omega
        clear O hx hx'
        by_cases hd : x = x'
        · subst hd
          have HQ := Lib.hid (show ∀ j : Nat, j < i + 1 → l[j]? = l'[j]? from fun j hj => by
            rcases Nat.lt_succ_iff_lt_or_eq.1 hj with h1 | rfl
            · exact EQ.out j h1
            · rw [HE.out.1, HE.out.2])
          go_wp2_with fail
          go_quiet (fail)
          go_wp2_with fail
          go_roundw
          case rel => exact ⟨i + 1, by omega, by go_num, HQ, Below_drewN OO.out _⟩
          case measure => simp [intOf]; omega
        · have HD := Lib.hid (show l ≠ l' from fun hx => by
            have h1 := HE.out.1
            rw [hx, HE.out.2] at h1
            injection h1 with h1
            exact hd h1.symm)
          have hd2 : (x == x') = false := by simpa using hd
          go_wp2_with fail
          go_quiet (fail)
          go_wp2_with fail
          go_ret
          exact ⟨by
            cases b
            · rfl
            · exact absurd (HB.out.1 rfl) HD.out, Below_drewN OO.out _⟩
      · obtain rfl : i = n := by omega
        have OO := Lib.hid O
        clear O
        go_wp2_with fail
        go_ret
        refine ⟨?_, OO.out⟩
        have : l = l' := by
          apply List.ext_getElem?
          intro j
          by_cases hj : j < i
          · exact EQ.out j hj
          · rw [List.getElem?_eq_none (by have := hl.out; omega), List.getElem?_eq_none (by have := hl'.out; omega)]
        rw [HB.out.2 this]; rfl
  · have hd : (n : Int) ≠ (n' : Int) := by omega
    have hd2 : ((n : Int) == (n' : Int)) = false := by simpa using hd
    go_enter Try.func22, Try.ntmps22
    go_wp2_with fail
    go_ret
    refine ⟨?_, Below.refl _ _⟩
    cases b
    · rfl
    · exfalso
      have := HB.out.1 rfl
      have h1 := hl.out
      rw [this, hl'.out] at h1
      exact hnn h1.symm
set_option maxHeartbeats 2000000 in
theorem same13_any {w : World} (a b a' b' : Int) (A A' : Option Addr) (n c n' c' : Nat) (l l' : List Int) (h : IntsAt w A n l) (h' : IntsAt w A' n' l') (hn : n ≤ 1000000) (hn' : n' ≤ 1000000) (q : Bool) (hq : q = true ↔ a = a' ∧ b = b' ∧ l = l') :
    Calls Try.prog 9 #[rootV a b A n c, rootV a' b' A' n' c'] w fun r w' => r = .returned (.bool q) ∧ Below w.heap.size w w' := by
  have O0 := belowAlloc (belowAlloc (Below.refl w.heap.size w) (.cells #[.int .i64 a, .int .i64 b, .slice A n c] 24)) (.cells #[.int .i64 a', .int .i64 b', .slice A' n' c'] 24)
  obtain ⟨d, hd⟩ := bool_of (l = l')
  have K := Lib.hid (ints_any (w := (w.alloc (.cells #[.int .i64 a, .int .i64 b, .slice A n c] 24)).alloc (.cells #[.int .i64 a', .int .i64 b', .slice A' n' c'] 24)) A A' n c n' c' l l' (h.below O0) (h'.below O0) hn hn' d hd)
  have O0 := Lib.hid O0
  have HD := Lib.hid hd
  have HQ := Lib.hid hq
  clear h h' hd hq
  unfold rootV
  by_cases h1 : a = a'
  · subst h1
    by_cases h2 : b = b'
    · subst h2
      go_enter Try.func9, Try.ntmps9
      go_wp2_with fail
      refine K.out.mono ?_
      rintro r w1 ⟨rfl, hb1⟩
      have O1 := Lib.hid (bstep O0.out hb1)
      clear hb1
      go_wp2_with fail
      go_ret
      refine ⟨?_, O1.out⟩
      have q1 := HD.out
      have q2 := HQ.out
      cases d <;> cases q <;> simp_all
    · obtain rfl : q = false := by
        cases q
        · rfl
        · exact absurd (HQ.out.1 rfl).2.1 h2
      have e2 : (b == b') = false := by simpa using h2
      go_enter Try.func9, Try.ntmps9
      go_wp2_with fail
      go_ret
      exact ⟨rfl, O0.out⟩
  · obtain rfl : q = false := by
      cases q
      · rfl
      · exact absurd (HQ.out.1 rfl).1 h1
    have e1 : (a == a') = false := by simpa using h1
    go_enter Try.func9, Try.ntmps9
    go_wp2_with fail
    go_ret
    exact ⟨rfl, O0.out⟩
end Go.Proofs.Ytemcamhkacaoiaa.Rt
