/- Open's errors on a disk that is up. -/
import Derived.Test.YtbelcgjbhpjnpaaGreatU3
set_option linter.all false
set_option linter.unusedVariables false
set_option linter.unusedSimpArgs false
namespace Go.Proofs.YtbelcgjbhpjnpaaGreat.Sh
open Go.RowKit Pk Dk Pg
theorem gotF_code (l : List UInt8) : (gotF l).2 = 0 ∨ (gotF l).2 = 6 ∨ (gotF l).2 = 14 := by
 unfold gotF
 split
 ·exact .inr (.inl rfl)
 ·split
  ·exact .inr (.inr rfl)
  ·split
   ·exact .inl rfl
   ·exact .inr (.inr rfl)
theorem pread_code {d : Dk.D} (hd : d.down = false) (n : Nat) (x : Int) : (preadF d n x).2 ≠ 13 := by
 have hg := gotF_code ((d.now.drop (64 * (2 + 4 * x.toNat))).take 256)
 unfold preadF
 split
 ·show (3 : Int) ≠ 13; decide
 ·rw [if_neg (by rw [hd]; decide)]
  split
  ·show (gotF _).2 ≠ 13; omega
  ·split
   ·show (14 : Int) ≠ 13; decide
   ·show (0 : Int) ≠ 13; decide
theorem check_code {c : C} (hd : c.d.down = false) (n : Nat) (x kd : Int) : (c.checkF n x kd).2.2 = 0 ∨ (c.checkF n x kd).2.2 = 14 := by
 have hp := pread_code hd n x
 unfold C.checkF
 split
 ·exact .inr rfl
 ·split
  ·refine .inr ?_
   show badF (preadF c.d n x).2 = 14
   unfold badF
   rw [if_neg hp]
  ·split
   ·exact .inr rfl
   ·exact .inl rfl
theorem loadOne_code {c : C} (hd : c.d.down = false) (n k : Nat) (x : Int) : (c.loadOne n x k).2 = 0 ∨ (c.loadOne n x k).2 = 14 := by
 have h := check_code hd n x 1
 unfold C.loadOne
 split
 ·exact h
 ·split
  ·exact .inr rfl
  ·exact .inl rfl
theorem loadF_code {c : C} (hd : c.d.down = false) (n lg : Nat) : ∀ k, (c.loadF n lg k).2 = 0 ∨ (c.loadF n lg k).2 = 14
 | 0 => .inl rfl
 | k + 1 => by
  rw [loadF_succ]
  split
  ·exact loadF_code hd n lg k
  ·rename_i h
   obtain ⟨⟨m, t, e⟩, _⟩ := loadF_ok (n := n) (lg := lg) k (by simpa using h)
   rw [e]
   exact loadOne_code (c := { c with m := m, table := t }) hd n _ _
theorem scanF_code {c : C} (hd : c.d.down = false) (n : Nat) : ∀ k, (c.scanF n k).2 = 0 ∨ (c.scanF n k).2 = 14
 | 0 => .inl rfl
 | k + 1 => by
  rw [scanF_succ]
  split
  ·exact scanF_code hd n k
  ·split
   ·exact scanF_code hd n k
   ·obtain ⟨m, e⟩ := scanF_fields c n k
    rw [e]
    exact check_code (c := { c with m := m }) hd n _ _
theorem openF_code {c : C} (hd : c.d.down = false) (n lg : Nat) : (c.openF n lg).2 = 0 ∨ (c.openF n lg).2 = 14 := by
 unfold C.openF
 split
 ·exact loadF_code hd n lg _
 ·rename_i h
  obtain ⟨⟨m, t, e⟩, _⟩ := loadF_ok (n := n) (lg := lg) c.parts.length (by simpa using h)
  rw [e]
  split
  ·exact scanF_code (c := { c with m := m, table := t }) hd n _
  ·exact .inl rfl
/-- what Open tells of a disk that is up: nothing, or a store all of whose pages passed -/
theorem open_says {d : Dk.D} {n : Nat} {L : Dk.Loc} {w w' : World} {e : Ending} (hd : d.down = false) (h : OpenR d n L w e w') : DiskAt w' L n d ∧ Only L.fp w w' ∧
  (e = .returned (.tuple #[.pointer none, .int .i64 14]) ∨
   ∃ x c, x.L = L ∧ e = .returned (.tuple #[sp x.b, .int .i64 0]) ∧ At w' x n c ∧ (∀ g ∈ x.fp, g ∈ L.fp ∨ w.heap.size ≤ g) ∧ c.d = d ∧ c.old = c.table ∧ c.broken = false ∧ c.parts.length ≤ 5 ∧ (∀ y ∈ reachL c, PgIn d n c.ep y) ∧ ∀ y ∈ c.table, 0 ≤ y → Passed d n c.ep y 2) := by
 obtain ⟨h1, h2, h⟩ := h
 refine ⟨h1, h2, ?_⟩
 rcases h with ⟨t, k, hN, h | h⟩ | h
 ·obtain ⟨hne, rfl⟩ := h
  rcases openF_code (c := rawC d n t k) hd n (Rt.at2 (Rt.decM t) 0) with h0 | h0
  ·exact absurd h0 hne
  ·rw [h0]; exact .inl rfl
 ·obtain ⟨h0, x, hl, rfl, A, f⟩ := h
  obtain ⟨e1, e2, e3, e4, e7, e5, e6⟩ := openF_ok (c := rawC d n t k) h0 rfl
  have h5 : (rawC d n t k).parts.length ≤ 5 := by
   have hg : Rt.goodR t := by rcases hN with ⟨_, rfl, g, _⟩ | ⟨_, rfl, g, _⟩ <;> exact g
   show (Rt.natI (Rt.decP t)).length ≤ 5
   have := hg.1
   have h2 := decP_len t
   unfold Rt.natI
   rw [List.length_map]
   omega
  refine .inr ⟨x, _, hl, rfl, A, f, e1, e4, e7, by rw [e3]; exact h5, fun y hy => ?_, fun y hy h0 => ?_⟩
  ·unfold reachL at hy
   rw [mem_msort, List.mem_append] at hy
   rw [e2]
   rcases hy with hy | hy
   ·rw [e3] at hy
    exact (e5 y hy).pg (.inl rfl)
   ·obtain ⟨hy, h0⟩ := mem_ids.1 hy
    exact (e6 y hy h0).pg (.inr rfl)
  ·rw [e2]
   exact e6 y (by rw [e4]; exact hy) h0
 ·exact .inl h.2.2
theorem mem_pgs {t : List Int} {y : Int} : ∀ k, y ∈ pgs t k → ∃ i : Nat, y = i ∧ i < k ∧ 0 ≤ t.getD i 0
 | 0, h => absurd h (by simp [pgs])
 | k + 1, h => by
  unfold pgs at h
  rcases List.mem_append.1 h with h | h
  ·obtain ⟨i, e, hi, h0⟩ := mem_pgs k h
   exact ⟨i, e, by omega, h0⟩
  ·split at h
   ·rename_i h0
    exact ⟨k, by simpa using h, by omega, h0⟩
   ·simp at h
/-- what the law asks of a store that Open found -/
theorem open_asks {w : World} {x : X} {n : Nat} {c : C} {d : Dk.D} (A : At w x n c) (e1 : c.d = d) (e2 : c.old = c.table) (e3 : c.broken = false) (e4 : c.parts.length ≤ 5) (h1 : ∀ y ∈ reachL c, PgIn d n c.ep y) (h2 : ∀ y ∈ c.table, 0 ≤ y → Passed d n c.ep y 2) : ∃ (R Q : List Int) (ep : Int),
  R.length ≤ 1000 ∧ Q.length ≤ 1000 ∧ (∀ (i : Nat) (y : Int), R[i]? = some y → PgIn d n ep y) ∧
  ∀ W, Below w.heap.size w W → DiskAt W x.L n d ∧
   Calls Tryz.prog 24 #[sp x.b] W (fun e w' => ∃ v', e = .returned v' ∧ Sl w' 3 v' R.length (nvs' R) ∧ Below W.heap.size W w') ∧
   Calls Tryz.prog 36 #[sp x.b] W (fun e w' => ∃ v', e = .returned v' ∧ Sl w' 3 v' Q.length (nvs' Q) ∧ Below W.heap.size W w') ∧
   Calls Tryz.prog 27 #[sp x.b] W (fun e w' => e = .returned (.int .i64 ep) ∧ W = w') ∧
   ∀ (i : Nat) (y : Int), Q[i]? = some y → Calls Tryz.prog 29 #[sp x.b, .int .i64 y] W (fun e w' => ∃ s, e = .returned (.tuple #[.string s, .int .i64 0]) ∧ Below W.heap.size W w') := by
 subst e1
 have tl := A.tl
 have hpl := pgs_le c.table c.table.length
 have hil := ids_le c.old
 have hrl : (reachL c).length = c.parts.length + (ids c.old).length := by unfold reachL; rw [msort_len, List.length_append]
 have hol : c.old.length ≤ 512 := by rw [e2]; exact tl
 refine ⟨reachL c, pgs c.table c.table.length, c.ep, by omega, by omega, fun i y hy => h1 y (List.mem_of_getElem? hy), fun W hW => ?_⟩
 have A1 := A.below hW
 refine ⟨A1.hd, reach_any A1 hol e4, (pages_list A1).mono fun e w' ⟨B, cc, r, S, hb⟩ => ⟨_, r, Sl.of_slc S, hb⟩, epoch_any A1, fun i y hy => ?_⟩
 obtain ⟨j, rfl, hj, h0⟩ := mem_pgs _ (List.mem_of_getElem? hy)
 have hm : c.table.getD j 0 ∈ c.table := by
  rw [List.getD_eq_getElem?_getD, List.getElem?_eq_getElem hj]
  exact List.getElem_mem hj
 have hp := h2 _ hm h0
 have hat : c.atF ((j : Nat) : Int) = 0 := by
  have hh : c.hasF ((j : Nat) : Int) = true := by
   unfold C.hasF
   simp only [Int.toNat_natCast, Bool.and_eq_true, decide_eq_true_eq]
   omega
  unfold C.atF
  rw [e3, hh]
  rfl
 have hr : (c.readF n (j : Nat)).2 = 0 := by
  unfold C.readF
  rw [if_neg (by rw [hat]; decide), show ((j : Nat) : Int).toNat = j by omega, if_neg (by rw [hp.1]; decide)]
 refine (Sh.read_any A1 (j : Nat)).mono fun e w' h => ?_
 rw [hr] at h
 exact ⟨_, h.1, h.2⟩
end Go.Proofs.YtbelcgjbhpjnpaaGreat.Sh
