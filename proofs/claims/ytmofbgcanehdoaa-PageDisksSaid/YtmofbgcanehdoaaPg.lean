/- pages: a string's bytes appended; numbers of any size. -/
import Derived.Test.YtmofbgcanehdoaaPk2
import Derived.Lib.AppendStr
import Derived.Deep.QuietTactic
import Derived.BigQuiet
namespace Go.Proofs.Ytmofbgcanehdoaa.Pg
open Go.RowKit Pk
/-- append(v, s...) of a string -/
noncomputable def appStr (P : Program) (T U ty : TypeId) (w : World) (s x : Value) : Result Value := (Builtin.append_ #[T, U] ty #[s, x]).run P w
theorem exec_appS (P : Program) (ρ : Operand → Value) (dst : Option Tmp) (s x : Operand) (T U t : TypeId) (p : String) (af : Array Edge) (g : Option (Nat × Bool)) (w : World) :
    (execOp ρ { dst := dst, op := .call { callee := .builtin .append, args := #[s, x], argTypes := #[T, U] }, type := t, pos := p, after := af, guard := g }).run P w = (appStr P T U t w (ρ s) (ρ x)).andThen fun v w' => .ok (.value v) w' := by
  simp [execOp, resolve, invoke, builtin, appStr]
theorem zeroCells_u8 (n : Nat) : (Builtin.zeroCells (Value.int .u8 0).cells n).toList = List.replicate n (Value.int .u8 0) := by
  apply List.ext_getElem
  · simp [Builtin.zeroCells, Value.cells]
  · intro i h1 h2
    simp [Builtin.zeroCells, Value.cells, Nat.mod_one]
theorem append_str {P : Program} {w : World} {e : TypeId} {v : Value} {n : Nat} {l : List Value} (h : Slc w e 1 v n l)
    (T U ty : TypeId) (ht : P.underlying T = some (.slice e)) (hu : P.underlying U = some .string) (hinfo : (P.info? e).map (fun i => (i.zero, i.size, i.bytes)) = some (some (.int .u8 0), 1, 1))
    (s : ByteArray) (h63 : n + s.size ≤ 140737488355328) :
    ∃ v' w', appStr P T U ty w v (.string s) = .ok v' w' ∧ Slc w' e 1 v' (n + s.size) (l ++ bvs s.data.toList) ∧ Only (ownB v) w w' ∧ (∀ g ∈ ownB v', g ∈ ownB v ∨ w.heap.size ≤ g) := by
  obtain ⟨i, hi, hz, hsize, hby⟩ := info_parts hinfo
  have hcs : Lib.strCells s = bvs s.data.toList := rfl
  have hlen : (bvs s.data.toList).length = s.size := by simp
  have hll := h.1
  rcases h.2 with ⟨rfl, rfl⟩ | ⟨g, cap, rest, rfl, B, hc, hm⟩
  · have hnil : l = [] := List.eq_nil_of_length_eq_zero (by simpa using h.1)
    subst hnil
    obtain ⟨v', w', hr, h2, h3, _⟩ := Lib.run_append_own_string (P := P) w w.heap.size T U ty e i ht hu hi hz hsize hby (.slice none 0 0) 0 [] (World.ownsRow_nil _ _ _ _) s (by unfold maxLen; omega) (by omega) (Nat.le_refl _)
    refine ⟨v', w', hr, .of_own h2, (Only.refl _ _).grown h3 (by simp [Value.ownBlock]), ?_⟩
    intro g hg
    rcases h2.2 with ⟨rfl, _⟩ | ⟨g', cap, cur, rfl, hb, _⟩
    · simp [ownB] at hg
    · simp [ownB] at hg; subst hg; exact .inr hb
  · by_cases hr : n + s.size ≤ cap
    · have hf := Lib.run_firstCells_string (P := P) w 1 s
      have hst := run_storeCells_cells (P := P) g n (bvs s.data.toList) 0 w (fun j hj => by rw [B.cell]; simp at hj ⊢; omega) (fun j hj => B.frozen _ (by simp at hj ⊢; omega)) (bvs_one _)
      refine ⟨.slice (some ⟨g, 0, none⟩) (n + s.size) cap, w.setCells g n (bvs s.data.toList), ?_, ⟨by simp; omega, .inr ⟨g, cap, rest.drop s.size, rfl, ?_, by simp; omega, hm⟩⟩, (Only.refl _ _).setCells _ _ (by simp [ownB]), by simp [ownB]⟩
      · simp only [Nat.add_zero] at hst
        rw [hcs] at hf
        simp [appStr, Builtin.append_, run_underlying ht, run_underlying hu, sizeOf, typeInfo, hi, hsize, Builtin.lenOf, hr, hf, Addr.add_lit, hst]
      · have B2 := B.setCells (bvs s.data.toList) n (by simp; omega)
        have e2 : putAt (l ++ rest) n (bvs s.data.toList) = l ++ bvs s.data.toList ++ rest.drop s.size := by
          unfold putAt
          have : l.length = n := by omega
          rw [hlen, ← this, List.take_left, ← List.drop_drop, List.drop_left]
        rwa [e2] at B2
    · have hrun := Lib.run_append_grow_string (P := P) w T U ty e i (.int .u8 0) ht hu hi hz ⟨g, 0, none⟩ n cap l (by rw [hsize]; exact h.1) (cells_at B 0 l (by intro j u hu; rw [Nat.zero_add]; exact List.getElem?_append_left (List.getElem?_eq_some_iff.1 hu).1 ▸ hu)) s (by omega) (by omega) (by rw [hby]; exact growslice_fits (by omega) (by omega))
      have hge := grownCap_ge w (n + s.size) cap e
      have hcm := grownCap_le_maxLen w (n + s.size) cap e (by unfold maxLen; omega)
      refine ⟨_, _, hrun, ⟨by simp; omega, .inr ⟨w.heap.size, _, List.replicate (grownCap w (n + s.size) cap e - (n + s.size)) (Value.int .u8 0), rfl, ?_, by simp; omega, hcm⟩⟩, (Only.refl _ _).drew.alloc _, by simp [ownB]⟩
      have B3 := Blk.new w.drew e (l.toArray ++ (Lib.strCells s).toArray ++ Builtin.zeroCells (Value.int .u8 0).cells (grownCap w (n + s.size) cap e - (n + s.size)))
      have e3 : l.toArray ++ (Lib.strCells s).toArray ++ Builtin.zeroCells (Value.int .u8 0).cells (grownCap w (n + s.size) cap e - (n + s.size)) = (l ++ bvs s.data.toList ++ List.replicate (grownCap w (n + s.size) cap e - (n + s.size)) (Value.int .u8 0)).toArray := by
        apply Array.toList_inj.1
        simp only [Array.toList_append, hcs]
        congr 1
        exact zeroCells_u8 _
      rw [← e3]
      exact B3
set_option maxRecDepth 100000 in
set_option maxHeartbeats 4000000 in
/-- a number that is not below 0 -/
theorem I_all (m : Nat) (h1 : m < 9223372036854775808) (w : World) :
    Calls Try.prog 33 #[.int .i64 (m : Nat)] w fun e w' => e = .returned (.string ⟨(packI m).toArray⟩) ∧ Below w.heap.size w w' := by
  have hN : (((m : Int) + 9223372036854775808) % 18446744073709551616).toNat = m + 9223372036854775808 := by omega
  have hNI : ((m + 9223372036854775808 : Nat) : Int) = (m : Int) + 9223372036854775808 := by omega
  have K := Lib.hid (put_any (m + 9223372036854775808) (by omega) w)
  rw [hNI] at K
  unfold packI
  rw [hN]
  have e1 : IntKind.u64.wrap (m : Int) = (m : Int) := IntWalk.u64_in _ (by omega)
  have e2 : IntKind.u64.wrap ((m : Int) + 9223372036854775808) = (m : Int) + 9223372036854775808 := IntWalk.u64_in _ (by omega)
  clear hN hNI
  go_enter Try.func33, Try.ntmps33
  go_wp2_with fail
  refine K.out.mono ?_
  rintro e w1 ⟨⟨v, rfl, S⟩, hb⟩
  obtain ⟨g, cap, rest, rfl, B, hc, _⟩ := S.form (by omega) (by omega)
  have ST := Lib.hid (run_string_of (P := Try.prog) w1 62 9 5 Try.underlying62 Try.underlying5 Try.underlying9 ⟨g, 0, none⟩ 8 cap (be8 (m + 9223372036854775808)) rfl (cells_at B 0 _ (by intro j u hu; rw [Nat.zero_add]; exact List.getElem?_append_left (List.getElem?_eq_some_iff.1 hu).1 ▸ hu)))
  have HB := Lib.hid hb
  clear hb S B
  go_wp2_with fail
  rw [ST.out]
  go_wp2_with fail
  go_ret
  exact ⟨rfl, HB.out⟩
set_option maxRecDepth 100000 in
set_option maxHeartbeats 4000000 in
theorem U_any (m : Nat) (h1 : m < 18446744073709551616) (w : World) :
    Calls Try.prog 34 #[.int .u64 (m : Nat)] w fun e w' => e = .returned (.string ⟨(be8 m).toArray⟩) ∧ Below w.heap.size w w' := by
  have K := Lib.hid (put_any m h1 w)
  go_enter Try.func34, Try.ntmps34
  go_wp2_with fail
  refine K.out.mono ?_
  rintro e w1 ⟨⟨v, rfl, S⟩, hb⟩
  obtain ⟨g, cap, rest, rfl, B, hc, _⟩ := S.form (by omega) (by omega)
  have ST := Lib.hid (run_string_of (P := Try.prog) w1 62 9 5 Try.underlying62 Try.underlying5 Try.underlying9 ⟨g, 0, none⟩ 8 cap (be8 m) rfl (cells_at B 0 _ (by intro j u hu; rw [Nat.zero_add]; exact List.getElem?_append_left (List.getElem?_eq_some_iff.1 hu).1 ▸ hu)))
  have HB := Lib.hid hb
  clear hb S B
  go_wp2_with fail
  rw [ST.out]
  go_wp2_with fail
  go_ret
  exact ⟨rfl, HB.out⟩
/-- a page by value -/
def pageV (id ep kd : Int) (s : ByteArray) : Value := .agg #[.int .i64 id, .int .i64 ep, .int .i64 kd, .string s]
def pageC (id ep kd : Int) (s : ByteArray) : Array Value := #[.int .i64 id, .int .i64 ep, .int .i64 kd, .string s]
/-- a page may be -/
def okP (id ep kd : Int) : Bool := decide (0 ≤ id) && decide (0 ≤ ep) && decide (ep ≤ 1099511627776) && decide (0 ≤ kd) && decide (kd ≤ 2147483647)
theorem okP_iff (id ep kd : Int) : okP id ep kd = true ↔ 0 ≤ id ∧ 0 ≤ ep ∧ ep ≤ 1099511627776 ∧ 0 ≤ kd ∧ kd ≤ 2147483647 := by
  unfold okP
  simp only [Bool.and_eq_true, decide_eq_true_eq]
  omega
theorem belowAlloc {W w1 : World} (h : Below W.heap.size W w1) (o : Obj) : Below W.heap.size W (w1.alloc o) := h.alloc h.size o
set_option maxHeartbeats 2000000 in
theorem pright_any {w : World} (id ep kd : Int) (s : ByteArray) (b : Bool) (hb : okP id ep kd = b) :
    Calls Try.prog 31 #[pageV id ep kd s] w fun e w' => e = .returned (.bool b) ∧ Below w.heap.size w w' := by
  have B0 := Blk.new w 23 (pageC id ep kd s)
  have O0 := Lib.hid (belowAlloc (Below.refl w.heap.size w) (.cells (pageC id ep kd s) 23))
  unfold pageC at B0 O0
  have c0 : (w.alloc (.cells #[.int .i64 id, .int .i64 ep, .int .i64 kd, .string s] 23)).cell? ⟨w.heap.size, 0, none⟩ = some (.int .i64 id) := B0.cell_some (i := 0) rfl
  have c1 : (w.alloc (.cells #[.int .i64 id, .int .i64 ep, .int .i64 kd, .string s] 23)).cell? ⟨w.heap.size, 1, none⟩ = some (.int .i64 ep) := B0.cell_some (i := 1) rfl
  have c2 : (w.alloc (.cells #[.int .i64 id, .int .i64 ep, .int .i64 kd, .string s] 23)).cell? ⟨w.heap.size, 2, none⟩ = some (.int .i64 kd) := B0.cell_some (i := 2) rfl
  clear B0
  unfold okP at hb
  have HB := Lib.hid hb
  clear hb
  unfold pageV
  by_cases h1 : 0 ≤ id
  · by_cases h2 : 0 ≤ ep
    · by_cases h3 : ep ≤ 1099511627776
      · by_cases h4 : 0 ≤ kd
        · by_cases h5 : kd ≤ 2147483647
          all_goals
            go_enter Try.func31, Try.ntmps31
            go_wp2_with fail
            go_ret
            exact ⟨by rw [← HB.out]; first | (simp [h1, h2, h3, h4, h5]; done) | (simp [h1, h2, h3, h4, h5]; omega), O0.out⟩
        · go_enter Try.func31, Try.ntmps31
          go_wp2_with fail
          go_ret
          exact ⟨by rw [← HB.out]; first | (simp [h1, h2, h3, h4]; done) | (simp [h1, h2, h3, h4]; omega), O0.out⟩
      · go_enter Try.func31, Try.ntmps31
        go_wp2_with fail
        go_ret
        exact ⟨by rw [← HB.out]; first | (simp [h1, h2, h3]; done) | (simp [h1, h2, h3]; omega), O0.out⟩
    · go_enter Try.func31, Try.ntmps31
      go_wp2_with fail
      go_ret
      exact ⟨by rw [← HB.out]; first | (simp [h1, h2]; done) | (simp [h1, h2]; omega), O0.out⟩
  · go_enter Try.func31, Try.ntmps31
    go_wp2_with fail
    go_ret
    exact ⟨by rw [← HB.out]; first | (simp [h1]; done) | (simp [h1]; omega), O0.out⟩
end Go.Proofs.Ytmofbgcanehdoaa.Pg
