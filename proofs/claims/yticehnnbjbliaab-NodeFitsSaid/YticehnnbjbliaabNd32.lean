/- nodes: Halves; both halves have room; a node made in whatever order; NodeFits where nothing is put. -/
import Derived.Deep.Cut
import Derived.Deep.CutRange
import Derived.Test.YticehnnbjbliaabNd23
namespace Go.Proofs.Yticehnnbjbliaab.Nd
section
open Go.RowKit Sl
attribute [local go_sem ↓] Go.wp_at_zero Go.wp_at_succ exec_app
/-- how far apart the halves are, cut at i -/
def farI (l : List E) (i : Nat) : Int := max ((bytesF (l.take i) : Int) - ((bytesF l : Int) - bytesF (l.take i))) ((bytesF l : Int) - bytesF (l.take i) - bytesF (l.take i))
def BestTo (l : List E) (m t : Nat) : Prop := 1 ≤ t ∧ t < m ∧ ∀ j, 1 ≤ j → j < m → farI l t ≤ farI l j
theorem ents_take (l : List E) (k : Nat) : (ents l).take (k * 3) = ents (l.take k) := by
  induction l generalizing k with
  | nil => simp [ents]
  | cons e l ih =>
    cases k with
    | zero => simp [ents]
    | succ k =>
      rw [ents_cons, List.take_succ_cons, ents_cons, show (k + 1) * 3 = e.cells.length + k * 3 by simp [E.cells]; omega, List.take_length_add_append, ih]
theorem ents_drop (l : List E) (k : Nat) : (ents l).drop (k * 3) = ents (l.drop k) := by
  induction l generalizing k with
  | nil => simp [ents]
  | cons e l ih =>
    cases k with
    | zero => simp [ents]
    | succ k =>
      rw [ents_cons, List.drop_succ_cons, show (k + 1) * 3 = e.cells.length + k * 3 by simp [E.cells]; omega, List.drop_length_add_append, ih]
theorem ents_one (l : List E) : ∀ v ∈ ents l, v.oneCell' = true := by
  intro v hv
  simp only [ents, List.mem_flatMap] at hv
  obtain ⟨e, _, hv⟩ := hv
  simp [E.cells] at hv
  rcases hv with rfl | rfl | rfl <;> rfl
/-- a part of a slice of entries appended to an own slice -/
theorem append_part {P : Program} {w : World} {t : TypeId} {v : Value} {n : Nat} {l0 : List E} (S : Slc w t 3 v n (ents l0)) {u : TypeId} {g : Nat} {l : List E} {rest : List Value} (B : Blk w g u (ents l ++ rest).toArray) (o m c : Nat) (hom : o + m ≤ l.length)
    (T ty : TypeId) (z : Value) (bytes : Nat) (ht : P.underlying T = some (.slice t)) (hinfo : (P.info? t).map (fun i => (i.zero, i.size, i.bytes)) = some (some z, 3, bytes)) (hz : z.cells.size = 3)
    (h63 : n + m ≤ maxLen) (hb : (n + m) * bytes ≤ 140737488355328) :
    ∃ v' w', appRun P T ty w v (.slice (some ⟨g, o * 3, none⟩) m c) = .ok v' w' ∧ Slc w' t 3 v' (n + m) (ents (l0 ++ (l.drop o).take m)) ∧ Only (ownB v) w w' ∧ (∀ x ∈ ownB v', x ∈ ownB v ∨ w.heap.size ≤ x) := by
  obtain ⟨i0, hi, hz0, hz1, hz2⟩ := info_parts hinfo
  have hlen : (ents ((l.drop o).take m)).length = m * 3 := by rw [ents_length, List.length_take, List.length_drop]; congr 1; omega
  obtain ⟨v', w', h1, h2, h3, h4⟩ := append_slc (P := P) S T ty i0 z bytes ht hi hz0 hz1 hz2 hz (by omega)
    ⟨g, o * 3, none⟩ m c (ents ((l.drop o).take m)) hlen (fun j x hx => by
      have hj : j < m * 3 := by rw [← hlen]; exact (List.getElem?_eq_some_iff.1 hx).1
      rw [addr_at]
      refine (B.cell _).trans ?_
      rw [← ents_take, ← ents_drop, List.getElem?_take, if_pos hj, List.getElem?_drop] at hx
      rw [List.getElem?_toArray, List.getElem?_append_left (by rw [ents_length]; omega)]
      exact hx) (ents_one _) h63 hb
  exact ⟨v', w', h1, by rw [ents_append]; exact h2, h3, h4⟩
theorem part_ents {w : World} {g : Nat} {u : TypeId} {l : List E} {rest : List Value} (B : Blk w g u (ents l ++ rest).toArray) (j : Nat) (e : E) (he : l[j]? = some e) : Ents w (some ⟨g, j * 3, none⟩) 1 [e] := by
  refine ⟨rfl, fun k x hx => ?_⟩
  have hk : k = 0 := by have := (List.getElem?_eq_some_iff.1 hx).1; simp at this; exact this
  subst hk
  simp only [List.getElem?_cons_zero, Option.some.injEq] at hx
  subst hx
  have := blk_ents B j e he
  rw [addr_at, Nat.zero_add] at this
  exact ⟨_, rfl, by rw [Nat.zero_mul, Addr.add, if_pos rfl]; exact this⟩
theorem farI_pos (l : List E) (i : Nat) : 0 ≤ farI l i := by unfold farI; omega
def BestInv (l : List E) (j t : Nat) (best : Int) : Prop := (j = 0 ∧ best = -1 ∧ t = 1) ∨ (0 < j ∧ BestTo l (j + 1) t ∧ best = farI l t)
theorem best_take {l : List E} {j t : Nat} {best R : Int} (h : BestInv l j t best) (hR : R = farI l (j + 1)) (hb : best < 0 ∨ R < best) : BestInv l (j + 1) (j + 1) R := by
  refine .inr ⟨by omega, ⟨by omega, by omega, fun i hi1 hi2 => ?_⟩, hR⟩
  rcases Nat.lt_or_ge i (j + 1) with h1 | h1
  · rcases h with ⟨rfl, _, _⟩ | ⟨h0, hB, hbb⟩
    · omega
    · have := hB.2.2 i hi1 h1
      have := farI_pos l t
      omega
  · obtain rfl : i = j + 1 := by omega
    exact Int.le_refl _
theorem best_keep {l : List E} {j t : Nat} {best R : Int} (h : BestInv l j t best) (hR : R = farI l (j + 1)) (h1 : ¬ best < 0) (h2 : ¬ R < best) : BestInv l (j + 1) t best := by
  rcases h with ⟨rfl, hb, _⟩ | ⟨h0, hB, hbb⟩
  · omega
  · refine .inr ⟨by omega, ⟨hB.1, by have := hB.2.1; omega, fun i hi1 hi2 => ?_⟩, hbb⟩
    rcases Nat.lt_or_ge i (j + 1) with h3 | h3
    · exact hB.2.2 i hi1 h3
    · obtain rfl : i = j + 1 := by omega
      omega
set_option maxRecDepth 100000 in
set_option maxHeartbeats 4000000 in
theorem halves_any {w : World} (leaf : Bool) (A : Option Addr) (n c : Nat) (l : List E) (S : Slc w 56 3 (.slice A n c) n (ents l)) (hn : 2 ≤ n) (hn2 : n ≤ 100) (hb : bytesF l ≤ 100000) :
    Calls Try.prog 24 #[nodeV leaf A n c] w fun r w' => (∃ t A1 c1 A2 c2, r = .returned (.tuple #[nodeV leaf A1 t c1, nodeV leaf A2 (n - t) c2]) ∧ BestTo l n t ∧ Slc w' 56 3 (.slice A1 t c1) t (ents (l.take t)) ∧ Slc w' 56 3 (.slice A2 (n - t) c2) (n - t) (ents (l.drop t))) ∧ Below w.heap.size w w' := by
  obtain ⟨g, cap, rest, hv, BG, hcn, hcl⟩ := S.form (by omega) (by omega)
  simp only [Value.slice.injEq, true_and] at hv
  obtain ⟨rfl, rfl⟩ := hv
  have hcm : c ≤ maxLen := by obtain ⟨_, _, _, _, h⟩ := S.blk; exact h
  have hll : l.length = n := by have := S.1; rw [ents_length] at this; omega
  have HLL := Lib.hid hll
  have hgl := BG.lt
  have B1 := Lib.hid (((Blk.new w 32 #[.bool leaf, .slice (some ⟨g, 0, none⟩) n c]).alloc (.cells #[.bool false, .slice none 0 0] 32)).alloc (.cells #[.bool false, .slice none 0 0] 32))
  have B2 := (Blk.new (w.alloc (.cells #[.bool leaf, .slice (some ⟨g, 0, none⟩) n c] 32)) 32 #[.bool false, .slice none 0 0]).alloc (.cells #[.bool false, .slice none 0 0] 32)
  have B3 := Blk.new ((w.alloc (.cells #[.bool leaf, .slice (some ⟨g, 0, none⟩) n c] 32)).alloc (.cells #[.bool false, .slice none 0 0] 32)) 32 #[.bool false, .slice none 0 0]
  rw [asz] at B2
  rw [asz, asz] at B3
  have B2 := Lib.hid B2
  have B3 := Lib.hid B3
  have O0 := Lib.hid (belowAlloc (belowAlloc (belowAlloc (Below.refl w.heap.size w) (.cells #[.bool leaf, .slice (some ⟨g, 0, none⟩) n c] 32)) (.cells #[.bool false, .slice none 0 0] 32)) (.cells #[.bool false, .slice none 0 0] 32))
  have G0 := Lib.hid (((BG.alloc (.cells #[.bool leaf, .slice (some ⟨g, 0, none⟩) n c] 32)).alloc (.cells #[.bool false, .slice none 0 0] 32)).alloc (.cells #[.bool false, .slice none 0 0] 32))
  have E0 := Lib.hid (((S.alloc (.cells #[.bool leaf, .slice (some ⟨g, 0, none⟩) n c] 32)).alloc (.cells #[.bool false, .slice none 0 0] 32)).alloc (.cells #[.bool false, .slice none 0 0] 32))
  clear BG S hll
  unfold nodeV
  go_enter Try.func24, Try.ntmps24
  have bx1 : (((w.alloc (.cells #[.bool leaf, .slice (some ⟨g, 0, none⟩) n c] 32)).alloc (.cells #[.bool false, .slice none 0 0] 32)).alloc (.cells #[.bool false, .slice none 0 0] 32)).cell? ⟨w.heap.size, 1, none⟩ = some (.slice (some ⟨g, 0, none⟩) n c) := B1.out.cell_some (i := 1) rfl
  go_wp2_with fail
  generalize hW : (((w.alloc (.cells #[.bool leaf, .slice (some ⟨g, 0, none⟩) n c] 32)).alloc (.cells #[.bool false, .slice none 0 0] 32)).alloc (.cells #[.bool false, .slice none 0 0] 32)) = W at *
  clear hW
  refine (bytes_any (w := W) (some ⟨g, 0, none⟩) n c l (Slc.ents E0.out).2 (by omega) (by omega)).mono ?_
  rintro r w1 ⟨rfl, hb1⟩
  have O1 := Lib.hid (bstep O0.out hb1)
  have C1 := Lib.hid (B1.out.below hb1 B1.out.lt)
  have C2 := Lib.hid (B2.out.below hb1 B2.out.lt)
  have C3 := Lib.hid (B3.out.below hb1 B3.out.lt)
  have G1 := Lib.hid (G0.out.below hb1 G0.out.lt)
  have hwl := C1.out.lt
  have x1 : w1.cell? ⟨w.heap.size, 1, none⟩ = some (.slice (some ⟨g, 0, none⟩) n c) := C1.out.cell_some (i := 1) rfl
  obtain ⟨all, hall⟩ : ∃ all, bytesF l = all := ⟨_, rfl⟩
  have HALL := Lib.hid hall
  rw [hall] at hb ⊢
  have hm1 : min (1 : Int) (n : Int) = 1 := by omega
  clear hb1 hall bx1
  go_wp2_with fail
  go_quiet (fail)
  go_wp2_with fail
  have x0 : w1.cell? ⟨w.heap.size, 0, none⟩ = some (.bool leaf) := C1.out.cell_some (i := 0) rfl
  go_loopw [5, 6, 7, 8] (fun bv av lv iv wr => ∃ (j t : Nat) (best : Int), j + 1 ≤ n ∧ bv = .int .i64 best ∧ av = .int .i64 (t : Nat) ∧ lv = .int .i64 (bytesF (l.take j) : Nat) ∧ iv = .int .i64 ((j : Int) + 1) ∧ Hid (BestInv l j t best) ∧ Below w1.heap.size w1 wr) (fun _ _ _ iv _ => n - (intOf iv).toNat)
  case atStart => exact ⟨0, 1, -1, by omega, rfl, rfl, by simp [bytesF], rfl, Lib.hid (.inl ⟨rfl, rfl, rfl⟩), Below_drewN (Below.refl _ _) _⟩
  case round =>
    obtain ⟨j, t, best, hj, rfl, rfl, rfl, rfl, BI, O⟩ := hrel
    have D1 := Lib.hid (C1.out.below O C1.out.lt)
    have y1 : wr.cell? ⟨w.heap.size, 1, none⟩ = some (.slice (some ⟨g, 0, none⟩) n c) := D1.out.cell_some (i := 1) rfl
    by_cases h : j + 1 < n
    · have he := List.getElem?_eq_getElem (show j < l.length by rw [HLL.out]; omega)
      obtain ⟨e, hee⟩ : ∃ e, l[j]'(by rw [HLL.out]; omega) = e := ⟨_, rfl⟩
      rw [hee] at he
      have hs := bytesF_snoc l j e he
      have ht := bytesF_take l (j + 1)
      have hone : bytesF [e] = e.key.size + e.val.size + 7 := by simp [bytesF]
      rw [HALL.out] at ht
      have KB := Lib.hid (fun cc => bytes_any (w := wr) (some ⟨g, j * 3, none⟩) 1 cc [e] (part_ents (G1.out.below O G1.out.lt) j e he) (by omega) (by rw [hone]; omega))
      have HRF := Lib.hid (show farI l (j + 1) = max ((bytesF (l.take (j + 1)) : Int) - ((all : Int) - bytesF (l.take (j + 1)))) ((all : Int) - bytesF (l.take (j + 1)) - bytesF (l.take (j + 1))) from by unfold farI; rw [HALL.out])
      obtain ⟨P, hP⟩ : ∃ P, bytesF (l.take j) = P := ⟨_, rfl⟩
      obtain ⟨q, hq⟩ : ∃ q, bytesF (l.take (j + 1)) = q := ⟨_, rfl⟩
      obtain ⟨ce, hce⟩ : ∃ ce, bytesF [e] = ce := ⟨_, rfl⟩
      rw [hce] at KB hone
      rw [hP, hq] at hs
      rw [hq] at ht HRF
      rw [hP]
      have HQ := Lib.hid hq
      have hqP : (P : Int) + (ce : Int) = (q : Int) := by omega
      have s1 : IntKind.i64.wrap ((P : Int) + (ce : Int)) = (q : Int) := by rw [hqP]; exact IntWalk.i64_in _ (by omega)
      have s2 : IntKind.i64.wrap ((all : Int) - (q : Int)) = (all : Int) - (q : Int) := IntWalk.i64_in _ (by omega)
      have s3 : IntKind.i64.wrap ((q : Int) - ((all : Int) - (q : Int))) = (q : Int) - ((all : Int) - (q : Int)) := IntWalk.i64_in _ (by omega)
      have s4 : IntKind.i64.wrap ((all : Int) - (q : Int) - (q : Int)) = (all : Int) - (q : Int) - (q : Int) := IntWalk.i64_in _ (by omega)
      have s5 : IntKind.i64.wrap (j : Int) = (j : Int) := IntWalk.i64_in _ (by omega)
      have s6 : IntKind.i64.wrap ((j : Int) + 1 - 1) = (j : Int) := by rw [Int.add_sub_cancel]; exact s5
      have s7 : IntKind.i64.wrap ((j : Int) + 1 + 1) = (j : Int) + 1 + 1 := IntWalk.i64_in _ (by omega)
      have s8 : (j : Int) + 1 < (n : Int) := by omega
      have s9 : (j : Int) ≤ (j : Int) + 1 := by omega
      have s10 : (j : Int) + 1 ≤ (c : Int) := by omega
      have s11 : ((j : Int) + 1).toNat = j + 1 := by omega
      have s12 : (0 : Int) ≤ (j : Int) + 1 := by omega
      have OO := Lib.hid O
      clear he hee hs hone hP hq hce O
      go_wp2_with fail
      refine (KB.out _).mono ?_
      rintro r w2 ⟨rfl, hb2⟩
      have O2 := Lib.hid (bstep OO.out hb2)
      clear hb2
      go_wp2_with fail
      all_goals
        have hRI : ∀ R : Int, R = (if ((q : Int) - ((all : Int) - q)) < (all : Int) - q - q then (all : Int) - q - q else (q : Int) - ((all : Int) - q)) → R = farI l (j + 1) := fun R h => by rw [h, HRF.out]; split <;> omega
        refine ⟨?_, by simp [intOf]; omega⟩
        first
          | exact ⟨j + 1, t, best, by omega, rfl, rfl, by rw [HQ.out], by go_num, Lib.hid (best_keep BI.out (hRI _ rfl) (by first | assumption | omega) (by first | assumption | omega)), O2.out⟩
          | exact ⟨j + 1, j + 1, _, by omega, rfl, by go_num, by rw [HQ.out], by go_num, Lib.hid (best_take BI.out (hRI _ rfl) (by first | (left; assumption) | (right; assumption) | omega)), O2.out⟩
    · obtain rfl : n = j + 1 := by omega
      have D2 := Lib.hid (C2.out.below O C2.out.lt)
      have D3 := Lib.hid (C3.out.below O C3.out.lt)
      have G2 := Lib.hid (G1.out.below O G1.out.lt)
      have y0 : wr.cell? ⟨w.heap.size, 0, none⟩ = some (.bool leaf) := D1.out.cell_some (i := 0) rfl
      have HBT := Lib.hid (show BestTo l (j + 1) t from by
        rcases BI.out with ⟨rfl, _, _⟩ | ⟨_, hB, _⟩
        · omega
        · exact hB)
      have ht1 := HBT.out.1
      have ht2 := HBT.out.2.1
      have OO := Lib.hid (bstep O1.out O)
      have s8 : ¬ (j : Int) + 1 < ((j + 1 : Nat) : Int) := by omega
      have t1 : (t : Int) ≤ (c : Int) := by omega
      have t2 : (t : Int) ≤ ((j + 1 : Nat) : Int) := by omega
      have t3 : t < c := by omega
      have t4 : ¬ t = c := by omega
      clear O
      go_wp2_with fail
      have t5 : (t : Int) ≤ (j : Int) + 1 := by omega
      have t6 : ¬ c = t := by omega
      have HK := Lib.hid (show ∀ W', Only [w.heap.size + 1, w.heap.size + 1 + 1] wr W' → (W'.cell? ⟨w.heap.size, 0, none⟩ = some (.bool leaf) ∧ W'.cell? ⟨w.heap.size, 1, none⟩ = some (.slice (some ⟨g, 0, none⟩) (j + 1) c)) from fun W' ho => ⟨(D1.out.only ho (by simp; omega)).cell_some (i := 0) rfl, (D1.out.only ho (by simp; omega)).cell_some (i := 1) rfl⟩)
      have HK0 := Lib.hid (show ∀ W', Only [] wr W' → (W'.cell? ⟨w.heap.size, 0, none⟩ = some (.bool leaf) ∧ W'.cell? ⟨w.heap.size, 1, none⟩ = some (.slice (some ⟨g, 0, none⟩) (j + 1) c)) from fun W' ho => HK.out W' (ho.mono (fun x hx _ => absurd hx (by simp))))
      have OD := Lib.hid ((Only.refl [] wr).drew)
      have GD := Lib.hid (G2.out.drew)
      have hd2 := D2.out.lt
      have hd3 := D3.out.lt
      -- an append of a part onto nil
      have AP1 := Lib.hid (show ∀ W' u, Blk W' g u (ents l ++ rest).toArray → ∃ V1 k1 w2, appRun Try.prog 30 30 W' (.slice none 0 0) (.slice (some ⟨g, 0, none⟩) t t) = .ok (.slice V1 t k1) w2 ∧ Slc w2 56 3 (.slice V1 t k1) t (ents (l.take t)) ∧ Only [] W' w2 ∧ (∀ x ∈ ownB (.slice V1 t k1), W'.heap.size ≤ x) from fun W' u B => by
        obtain ⟨v, w2, e1, S, o, f⟩ := append_part (P := Try.prog) (l0 := []) (Slc.nil W' 56 3) B 0 t t (by rw [HLL.out]; omega) 30 30 (.agg #[.string .empty, .string .empty, .int .i64 0]) 40 Try.underlying30 (by kernel_rfl) rfl (by unfold maxLen; omega) (by omega)
        rw [Nat.zero_add, List.nil_append, List.drop_zero] at S
        obtain ⟨V1, k1, rfl⟩ := slc_val S
        exact ⟨V1, k1, w2, e1, S, o, fun x hx => (f x hx).elim (fun h => by simp [ownB] at h) id⟩)
      have AP2 := Lib.hid (show ∀ W' u, Blk W' g u (ents l ++ rest).toArray → ∃ V1 k1 w2, appRun Try.prog 30 30 W' (.slice none 0 0) (.slice (some ⟨g, t * 3, none⟩) (j + 1 - t) (c - t)) = .ok (.slice V1 (j + 1 - t) k1) w2 ∧ Slc w2 56 3 (.slice V1 (j + 1 - t) k1) (j + 1 - t) (ents (l.drop t)) ∧ Only [] W' w2 ∧ (∀ x ∈ ownB (.slice V1 (j + 1 - t) k1), W'.heap.size ≤ x) from fun W' u B => by
        obtain ⟨v, w2, e1, S, o, f⟩ := append_part (P := Try.prog) (l0 := []) (Slc.nil W' 56 3) B t (j + 1 - t) (c - t) (by rw [HLL.out]; omega) 30 30 (.agg #[.string .empty, .string .empty, .int .i64 0]) 40 Try.underlying30 (by kernel_rfl) rfl (by unfold maxLen; omega) (by omega)
        rw [Nat.zero_add, List.nil_append, List.take_of_length_le (by rw [List.length_drop, HLL.out]; exact Nat.le_refl _)] at S
        obtain ⟨V1, k1, rfl⟩ := slc_val S
        exact ⟨V1, k1, w2, e1, S, o, fun x hx => (f x hx).elim (fun h => by simp [ownB] at h) id⟩)
      refine wp_region_held_drew (S := fun W' => W'.cell? ⟨w.heap.size, 0, none⟩ = some (.bool leaf) ∧ W'.cell? ⟨w.heap.size, 1, none⟩ = some (.slice (some ⟨g, 0, none⟩) (j + 1) c)) (by kernel_rfl) (HK0.out _ OD.out) (fun hHeld => ?_)
      refine wpAnyH_take (i := 0) (oi := ⟨some 53, _, _, _, _, _⟩) (v := ?_) rfl (by kernel_rfl) (by kernel_rfl) (by kernel_rfl) (fun _ _ _ h => h) (Or.inl ⟨by kernel_rfl, ?_⟩) (by assumption) ?_
      rotate_left
      · (intro w hSw; (try dsimp only at hSw); go_simp; (try (with_reducible rfl)))
      try simp only [Act.put, List.setIfInBounds_toArray, List.set_cons_zero, List.set_cons_succ]
      refine wpAnyH_take (i := 1) (oi := ⟨some 54, _, _, _, _, _⟩) (v := ?_) rfl (by kernel_rfl) (by kernel_rfl) (by kernel_rfl) (fun _ _ _ h => h) (Or.inl ⟨by kernel_rfl, ?_⟩) (by assumption) ?_
      rotate_left
      · (intro w hSw; (try dsimp only at hSw); go_simp; (try (with_reducible rfl)))
      try simp only [Act.put, List.setIfInBounds_toArray, List.set_cons_zero, List.set_cons_succ]
      refine wpAnyH_take (i := 2) (oi := ⟨some 55, _, _, _, _, _⟩) (v := ?_) rfl (by kernel_rfl) (by kernel_rfl) (by kernel_rfl) (fun _ _ _ h => h) (Or.inl ⟨by kernel_rfl, ?_⟩) (by assumption) ?_
      rotate_left
      · (intro w hSw; (try dsimp only at hSw); go_simp; (try (with_reducible rfl)))
      try simp only [Act.put, List.setIfInBounds_toArray, List.set_cons_zero, List.set_cons_succ]
      refine wpAnyH_take (i := 3) (oi := ⟨some 56, _, _, _, _, _⟩) (v := ?_) rfl (by kernel_rfl) (by kernel_rfl) (by kernel_rfl) (fun _ _ _ h => h) (Or.inl ⟨by kernel_rfl, ?_⟩) (by assumption) ?_
      rotate_left
      · (intro w hSw; (try dsimp only at hSw); go_simp; (try (with_reducible rfl)))
      try simp only [Act.put, List.setIfInBounds_toArray, List.set_cons_zero, List.set_cons_succ]
      refine wpAnyH_take (i := 4) (oi := ⟨some 57, _, _, _, _, _⟩) (v := ?_) rfl (by kernel_rfl) (by kernel_rfl) (by kernel_rfl) (fun _ _ _ h => h) (Or.inl ⟨by kernel_rfl, ?_⟩) (by assumption) ?_
      rotate_left
      · (intro w hSw; (try dsimp only at hSw); go_simp; (try (with_reducible rfl)))
      try simp only [Act.put, List.setIfInBounds_toArray, List.set_cons_zero, List.set_cons_succ]
      refine wpAnyH_take (i := 5) (oi := ⟨some 58, _, _, _, _, _⟩) (v := ?_) rfl (by kernel_rfl) (by kernel_rfl) (by kernel_rfl) (fun _ _ _ h => h) (Or.inl ⟨by kernel_rfl, ?_⟩) (by assumption) ?_
      rotate_left
      · (intro w hSw; (try dsimp only at hSw); go_simp; (try (with_reducible rfl)))
      try simp only [Act.put, List.setIfInBounds_toArray, List.set_cons_zero, List.set_cons_succ]
      refine wpAnyH_take (i := 6) (oi := ⟨some 59, _, _, _, _, _⟩) (v := ?_) rfl (by kernel_rfl) (by kernel_rfl) (by kernel_rfl) (fun _ _ _ h => h) (Or.inl ⟨by kernel_rfl, ?_⟩) (by assumption) ?_
      rotate_left
      · (intro w hSw; (try dsimp only at hSw); go_simp; (try (with_reducible rfl)))
      try simp only [Act.put, List.setIfInBounds_toArray, List.set_cons_zero, List.set_cons_succ]
      refine wpAnyH_take (i := 9) (oi := ⟨some 62, _, _, _, _, _⟩) (v := ?_) rfl (by kernel_rfl) (by kernel_rfl) (by kernel_rfl) (fun _ _ _ h => h) (Or.inl ⟨by kernel_rfl, ?_⟩) (by assumption) ?_
      rotate_left
      · (intro w hSw; (try dsimp only at hSw); go_simp; (try (with_reducible rfl)))
      try simp only [Act.put, List.setIfInBounds_toArray, List.set_cons_zero, List.set_cons_succ]
      refine wpAnyH_take (i := 10) (oi := ⟨some 63, _, _, _, _, _⟩) (v := ?_) rfl (by kernel_rfl) (by kernel_rfl) (by kernel_rfl) (fun _ _ _ h => h) (Or.inl ⟨by kernel_rfl, ?_⟩) (by assumption) ?_
      rotate_left
      · (intro w hSw; (try dsimp only at hSw); go_simp; (try (with_reducible rfl)))
      try simp only [Act.put, List.setIfInBounds_toArray, List.set_cons_zero, List.set_cons_succ]
      refine wpAnyH_take (i := 11) (oi := ⟨some 64, _, _, _, _, _⟩) (v := ?_) rfl (by kernel_rfl) (by kernel_rfl) (by kernel_rfl) (fun _ _ _ h => h) (Or.inl ⟨by kernel_rfl, ?_⟩) (by assumption) ?_
      rotate_left
      · (intro w hSw; (try dsimp only at hSw); go_simp; (try (with_reducible rfl)))
      try simp only [Act.put, List.setIfInBounds_toArray, List.set_cons_zero, List.set_cons_succ]
      refine wpAnyH_take (i := 12) (oi := ⟨some 65, _, _, _, _, _⟩) (v := ?_) rfl (by kernel_rfl) (by kernel_rfl) (by kernel_rfl) (fun _ _ _ h => h) (Or.inl ⟨by kernel_rfl, ?_⟩) (by assumption) ?_
      rotate_left
      · (intro w hSw; (try dsimp only at hSw); go_simp; (try (with_reducible rfl)))
      try simp only [Act.put, List.setIfInBounds_toArray, List.set_cons_zero, List.set_cons_succ]
      refine wpAnyH_take (i := 13) (oi := ⟨some 66, _, _, _, _, _⟩) (v := ?_) rfl (by kernel_rfl) (by kernel_rfl) (by kernel_rfl) (fun _ _ _ h => h) (Or.inl ⟨by kernel_rfl, ?_⟩) (by assumption) ?_
      rotate_left
      · (intro w hSw; (try dsimp only at hSw); go_simp; (try (with_reducible rfl)))
      try simp only [Act.put, List.setIfInBounds_toArray, List.set_cons_zero, List.set_cons_succ]
      refine wpAnyH_take (i := 14) (oi := ⟨some 67, _, _, _, _, _⟩) (v := ?_) rfl (by kernel_rfl) (by kernel_rfl) (by kernel_rfl) (fun _ _ _ h => h) (Or.inl ⟨by kernel_rfl, ?_⟩) (by assumption) ?_
      rotate_left
      · (intro w hSw; (try dsimp only at hSw); go_simp; (try (with_reducible rfl)))
      try simp only [Act.put, List.setIfInBounds_toArray, List.set_cons_zero, List.set_cons_succ]
      refine wpAnyH_ready (rs := [7]) (by kernel_rfl) (by simp) ?_
      refine AllReadyH.cons (o := ⟨some 60, _, _, _, _, _⟩) rfl (fun K hK => ?_) AllReadyH.nil
      · obtain ⟨Va, ka, w2, ea, Sa, oa, fa⟩ := AP1.out _ _ GD.out
        have Oa := Lib.hid (OD.out.trans oa)
        obtain ⟨Vb, kb, w3, eb, Sb, ob, fb⟩ := AP2.out _ _ (GD.out.only oa (by simp))
        have Ob := Lib.hid (Oa.out.trans ob)
        have E1 := Lib.hid ea
        have E2 := Lib.hid eb
        have Sa3 := Sa.only ob (by simp)
        have Fa := Lib.hid (show ∀ x ∈ ownB _, wr.heap.size ≤ x from fa)
        have Fb := Lib.hid (show ∀ x ∈ ownB _, wr.heap.size ≤ x from fun x hx => Nat.le_trans oa.size (fb x hx))
        have D23 := D2.out.only Ob.out (by simp)
        have D33 := D3.out.only Ob.out (by simp)
        clear ea eb
        go_simp
        rw [E1.out]
        go_simp
        refine hK.out _ _ (HK0.out _ Oa.out) (fun hHeld => ?_)
        try simp only [Act.put, List.setIfInBounds_toArray, List.set_cons_zero, List.set_cons_succ]
        refine wpAnyH_take (i := 8) (oi := ⟨some 61, _, _, _, _, _⟩) (v := ?_) rfl (by kernel_rfl) (by kernel_rfl) (by kernel_rfl) (fun _ _ _ h => h) (Or.inl ⟨by kernel_rfl, ?_⟩) (by assumption) ?_
        rotate_left
        · (intro w hSw; (try dsimp only at hSw); go_simp; (try (with_reducible rfl)))
        try simp only [Act.put, List.setIfInBounds_toArray, List.set_cons_zero, List.set_cons_succ]
        refine wpAnyH_ready (rs := [15]) (by kernel_rfl) (by simp) ?_
        refine AllReadyH.cons (o := ⟨some 68, _, _, _, _, _⟩) rfl (fun K hK => ?_) AllReadyH.nil
        go_simp
        rw [E2.out]
        go_simp
        refine hK.out _ _ (HK0.out _ Ob.out) (fun hHeld => ?_)
        try simp only [Act.put, List.setIfInBounds_toArray, List.set_cons_zero, List.set_cons_succ]
        refine wpAnyH_take (i := 16) (oi := ⟨some 69, _, _, _, _, _⟩) (v := ?_) rfl (by kernel_rfl) (by kernel_rfl) (by kernel_rfl) (fun _ _ _ h => h) (Or.inl ⟨by kernel_rfl, ?_⟩) (by assumption) ?_
        rotate_left
        · (intro w hSw; (try dsimp only at hSw); go_simp; (try (with_reducible rfl)))
        try simp only [Act.put, List.setIfInBounds_toArray, List.set_cons_zero, List.set_cons_succ]
        have p0 : w3.frozen? ⟨w.heap.size + 1, 0, none⟩ = false := D23.frozen 0 (by simp)
        have p1 : w3.frozen? ⟨w.heap.size + 1, 1, none⟩ = false := D23.frozen 1 (by simp)
        have p2 : w3.cell? ⟨w.heap.size + 1, 0, none⟩ = some (.bool false) := D23.cell_some (i := 0) rfl
        have p3 : w3.cell? ⟨w.heap.size + 1, 1, none⟩ = some (.slice none 0 0) := D23.cell_some (i := 1) rfl
        have r0 : w3.frozen? ⟨w.heap.size + 1 + 1, 0, none⟩ = false := D33.frozen 0 (by simp)
        have r1 : w3.frozen? ⟨w.heap.size + 1 + 1, 1, none⟩ = false := D33.frozen 1 (by simp)
        have r2 : w3.cell? ⟨w.heap.size + 1 + 1, 0, none⟩ = some (.bool false) := D33.cell_some (i := 0) rfl
        have r3 : w3.cell? ⟨w.heap.size + 1 + 1, 1, none⟩ = some (.slice none 0 0) := D33.cell_some (i := 1) rfl
        have OX1 := Lib.hid (((Ob.out.mono (S' := [w.heap.size + 1, w.heap.size + 1 + 1]) (fun x hx _ => absurd hx (by simp))).setCell (p := ⟨w.heap.size + 1, 0, none⟩) (fun _ => by simp) (.bool leaf)).setCell (p := ⟨w.heap.size + 1, 1, none⟩) (fun _ => by simp) (.slice Va t ka))
        have OX2 := Lib.hid ((OX1.out.setCell (p := ⟨w.heap.size + 1 + 1, 0, none⟩) (fun _ => by simp) (.bool leaf)).setCell (p := ⟨w.heap.size + 1 + 1, 1, none⟩) (fun _ => by simp) (.slice Vb (j + 1 - t) kb))
        have BX2 := Lib.hid ((((D23.set_ 0 (.bool leaf)).set_ 1 (.slice Va t ka)).far (p := ⟨w.heap.size + 1 + 1, 0, none⟩) (by simp) (.bool leaf)).far (p := ⟨w.heap.size + 1 + 1, 1, none⟩) (by simp) (.slice Vb (j + 1 - t) kb))
        have BX3 := Lib.hid ((((D33.far (p := ⟨w.heap.size + 1, 0, none⟩) (by simp) (.bool leaf)).far (p := ⟨w.heap.size + 1, 1, none⟩) (by simp) (.slice Va t ka)).set_ 0 (.bool leaf)).set_ 1 (.slice Vb (j + 1 - t) kb))
        have OS := Lib.hid ((((((Only.refl [w.heap.size + 1, w.heap.size + 1 + 1] w3).setCell (p := ⟨w.heap.size + 1, 0, none⟩) (fun _ => by simp) (.bool leaf)).setCell (p := ⟨w.heap.size + 1, 1, none⟩) (fun _ => by simp) (.slice Va t ka)).setCell (p := ⟨w.heap.size + 1 + 1, 0, none⟩) (fun _ => by simp) (.bool leaf)).setCell (p := ⟨w.heap.size + 1 + 1, 1, none⟩) (fun _ => by simp) (.slice Vb (j + 1 - t) kb)))
        have SX1 := Lib.hid (Sa3.only OS.out (fun x hx => by have := Fa.out x hx; simp; omega))
        have SX2 := Lib.hid (Sb.only OS.out (fun x hx => by have := Fb.out x hx; simp; omega))
        have OB := Lib.hid (OO.out.trans (OX2.out.below_of OO.out.size (fun x hx => by simp at hx; omega)))
        clear Sa Sb Sa3 oa ob fa fb D23 D33
        refine wpAnyH_ready (rs := [17]) (by kernel_rfl) (by simp) ?_
        refine AllReadyH.cons (o := ⟨none, _, _, _, _, _⟩) rfl (fun K hK => ?_) AllReadyH.nil
        go_simp
        refine hK.out _ _ (HK.out _ OX1.out) (fun hHeld => ?_)
        try simp only [Act.put, List.setIfInBounds_toArray, List.set_cons_zero, List.set_cons_succ]
        refine wpAnyH_ready (rs := [18]) (by kernel_rfl) (by simp) ?_
        refine AllReadyH.cons (o := ⟨none, _, _, _, _, _⟩) rfl (fun K hK => ?_) AllReadyH.nil
        go_simp
        refine hK.out _ _ (HK.out _ OX2.out) (fun hHeld => ?_)
        try simp only [Act.put, List.setIfInBounds_toArray, List.set_cons_zero, List.set_cons_succ]
        refine wpAnyH_done (by kernel_rfl) ?_ _
        go_wp2_with fail
        exact bodyPost_ret (ret_halves rfl rfl rfl BX2.out BX3.out) rfl ⟨⟨t, _, _, _, _, rfl, HBT.out, SX1.out, SX2.out⟩, OB.out⟩
end
section
open Go.RowKit Sl Go.Deep Go.ChangeShapes Go.WideShapes
def cost (e : E) : Nat := e.key.size + e.val.size + 7
theorem bytesF_append (l m : List E) : bytesF (l ++ m) = bytesF l + bytesF m := by simp [bytesF]
theorem bytesF_drop (l : List E) (t : Nat) : bytesF l = bytesF (l.take t) + bytesF (l.drop t) := by rw [← bytesF_append, List.take_append_drop]
theorem room_bytes (leaf : Bool) (l : List E) : roomR (recsN leaf l) = 223 - (bytesF l : Int) := by
  unfold roomR recsN bytesF
  have h : ∀ l : List E, ((l.map recE).map fun r => 4 + r.length).sum = (l.map fun e => e.key.size + e.val.size + 7).sum := by
    intro l
    induction l with
    | nil => rfl
    | cons e l ih => simp only [List.map_cons, List.sum_cons, ih, recE_length]; omega
  have hk : (kindB leaf).length = 1 := by unfold kindB; split <;> rfl
  rw [List.map_cons, List.sum_cons, h, hk]
  omega
theorem near_half (l : List E) (hc : ∀ e ∈ l, cost e ≤ 79) (hn : 2 ≤ l.length) : ∃ i, 1 ≤ i ∧ i < l.length ∧ farI l i ≤ 79 := by
  have step : ∀ k, k + 1 < l.length → (∃ i, 1 ≤ i ∧ i < l.length ∧ farI l i ≤ 79) ∨ 2 * bytesF (l.take (k + 1)) < bytesF l := by
    intro k
    induction k with
    | zero =>
      intro hk
      by_cases h : 2 * bytesF (l.take 1) < bytesF l
      · exact .inr h
      · refine .inl ⟨1, by omega, by omega, ?_⟩
        have he := List.getElem?_eq_getElem (show 0 < l.length by omega)
        have hs := bytesF_snoc l 0 _ he
        have hx := hc _ (List.getElem_mem (show 0 < l.length by omega))
        unfold cost at hx
        have ht := bytesF_take l 1
        rw [List.take_zero] at hs
        have h0 : bytesF ([] : List E) = 0 := rfl
        rw [Nat.zero_add] at hs
        unfold farI
        omega
    | succ k ih =>
      intro hk
      rcases ih (by omega) with h | h
      · exact .inl h
      · by_cases h2 : 2 * bytesF (l.take (k + 1 + 1)) < bytesF l
        · exact .inr h2
        · have he := List.getElem?_eq_getElem (show k + 1 < l.length by omega)
          have hs := bytesF_snoc l (k + 1) _ he
          have hx := hc _ (List.getElem_mem (show k + 1 < l.length by omega))
          unfold cost at hx
          by_cases h3 : 2 * bytesF (l.take (k + 1 + 1)) ≤ bytesF l + 79
          · refine .inl ⟨k + 1 + 1, by omega, by omega, ?_⟩
            unfold farI
            omega
          · refine .inl ⟨k + 1, by omega, by omega, ?_⟩
            unfold farI
            omega
  rcases step (l.length - 2) (by omega) with h | h
  · exact h
  · refine ⟨l.length - 1, by omega, by omega, ?_⟩
    rw [show l.length - 2 + 1 = l.length - 1 by omega] at h
    have he := List.getElem?_eq_getElem (show l.length - 1 < l.length by omega)
    have hs := bytesF_snoc l (l.length - 1) _ he
    have hx := hc _ (List.getElem_mem (show l.length - 1 < l.length by omega))
    unfold cost at hx
    rw [show l.length - 1 + 1 = l.length by omega, List.take_length] at hs
    unfold farI
    omega
theorem best_fits {l : List E} {t : Nat} (hc : ∀ e ∈ l, cost e ≤ 79) (hn : 2 ≤ l.length) (hb : bytesF l ≤ 302) (h : BestTo l l.length t) : bytesF (l.take t) ≤ 223 ∧ bytesF (l.drop t) ≤ 223 := by
  obtain ⟨i, h1, h2, h3⟩ := near_half l hc hn
  have h4 := h.2.2 i h1 h2
  have h5 := bytesF_drop l t
  unfold farI at h3 h4
  omega
theorem may_take {l : List E} {leaf : Bool} (h : mayP l leaf) (t : Nat) : mayP (l.take t) leaf := by
  intro i hi e he
  have hil : i < l.length := by rw [List.length_take] at hi; omega
  have hit : i < t := by rw [List.length_take] at hi; omega
  rw [List.getElem?_take, if_pos hit] at he
  obtain ⟨a, b⟩ := h i hil e he
  refine ⟨a, fun h0 p hp => b h0 p ?_⟩
  rw [List.getElem?_take, if_pos (by omega)] at hp
  exact hp
theorem may_drop {l : List E} {leaf : Bool} (h : mayP l leaf) (t : Nat) : mayP (l.drop t) leaf := by
  intro i hi e he
  have hil : t + i < l.length := by rw [List.length_drop] at hi; omega
  rw [List.getElem?_drop] at he
  obtain ⟨a, b⟩ := h (t + i) hil e he
  refine ⟨a, fun h0 p hp => b (by omega) p ?_⟩
  rw [List.getElem?_drop] at hp
  rw [show t + i - 1 = t + (i - 1) by omega]; exact hp
theorem may_cost {l : List E} {leaf : Bool} (h : mayP l leaf) : ∀ e ∈ l, cost e ≤ 79 := fun e he => by
  have := may_bounds h e he
  unfold cost; omega
/-- nothing appended -/
theorem append_zero {P : Program} {w : World} {t : TypeId} {v : Value} {n : Nat} {l : List Value} (S : Slc w t 3 v n l) (T ty : TypeId) (z : Value) (bytes : Nat) (ht : P.underlying T = some (.slice t)) (hinfo : (P.info? t).map (fun i => (i.zero, i.size, i.bytes)) = some (some z, 3, bytes)) (hz : z.cells.size = 3) (B : Option Addr) (c : Nat)
    (h63 : n ≤ maxLen) (hb : n * bytes ≤ 140737488355328) :
    ∃ v' w', appRun P T ty w v (.slice B 0 c) = .ok v' w' ∧ Slc w' t 3 v' n l ∧ Only (ownB v) w w' ∧ (∀ x ∈ ownB v', x ∈ ownB v ∨ w.heap.size ≤ x) := by
  obtain ⟨i0, hi, hz0, hz1, hz2⟩ := info_parts hinfo
  cases B with
  | none =>
    refine ⟨v, w, ?_, S, Only.refl _ _, fun x hx => .inl hx⟩
    unfold appRun
    rcases S.2 with ⟨rfl, h0⟩ | ⟨g, cap, rest, rfl, BB, hc, hm⟩
    · simp [Builtin.append_, run_underlying ht, sizeOf, typeInfo, hi, Builtin.lenOf, Builtin.firstCells]
    · have hl := S.1
      have hnc : n ≤ cap := by omega
      simp [Builtin.append_, run_underlying ht, sizeOf, typeInfo, hi, Builtin.lenOf, Builtin.firstCells, hnc, storeCells]
  | some a =>
    obtain ⟨v', w', h1, h2, h3, h4⟩ := append_slc (P := P) S T ty i0 z bytes ht hi hz0 hz1 hz2 hz (by omega) a 0 c [] rfl (by simp) (by simp) (by simpa using h63) (by simpa using hb)
    rw [List.append_nil, Nat.add_zero] at h2
    exact ⟨v', w', h1, h2, h3, h4⟩
/-- entries that came in appended -/
theorem append_came {P : Program} {w : World} {t : TypeId} {v : Value} {n : Nat} {l0 : List E} (S : Slc w t 3 v n (ents l0)) {ad : Addr} {N : Nat} {l : List E} (H : Ents w (some ad) N l) (o m c : Nat) (hom : o + m ≤ N)
    (T ty : TypeId) (z : Value) (bytes : Nat) (ht : P.underlying T = some (.slice t)) (hinfo : (P.info? t).map (fun i => (i.zero, i.size, i.bytes)) = some (some z, 3, bytes)) (hz : z.cells.size = 3)
    (h63 : n + m ≤ maxLen) (hb : (n + m) * bytes ≤ 140737488355328) :
    ∃ v' w', appRun P T ty w v (.slice (some (ad.add (o * 3))) m c) = .ok v' w' ∧ Slc w' t 3 v' (n + m) (ents (l0 ++ (l.drop o).take m)) ∧ Only (ownB v) w w' ∧ (∀ x ∈ ownB v', x ∈ ownB v ∨ w.heap.size ≤ x) := by
  obtain ⟨i0, hi, hz0, hz1, hz2⟩ := info_parts hinfo
  have hN := H.1
  have hlen : (ents ((l.drop o).take m)).length = m * 3 := by rw [ents_length, List.length_take, List.length_drop]; congr 1; omega
  obtain ⟨v', w', h1, h2, h3, h4⟩ := append_slc (P := P) S T ty i0 z bytes ht hi hz0 hz1 hz2 hz (by omega)
    (ad.add (o * 3)) m c (ents ((l.drop o).take m)) hlen (fun j x hx => by
      have hj : j < m * 3 := by rw [← hlen]; exact (List.getElem?_eq_some_iff.1 hx).1
      obtain ⟨q, r, hq, hr⟩ : ∃ q r, j = q * 3 + r ∧ r < 3 := ⟨j / 3, j % 3, by omega, by omega⟩
      subst hq
      have hqm : q < m := by omega
      have hel : (l.drop o).take m = (l.drop o).take m := rfl
      have he : ((l.drop o).take m)[q]? = some (l[o + q]'(by omega)) := by
        rw [List.getElem?_take, if_pos hqm, List.getElem?_drop, List.getElem?_eq_getElem]
      rw [ents_get he r hr] at hx
      obtain ⟨ad', e1, AT⟩ := H.2 (o + q) _ (List.getElem?_eq_getElem (show o + q < l.length by omega))
      injection e1 with e1
      subst e1
      rw [add_of_add, show o * 3 + (q * 3 + r) = (o + q) * 3 + r by omega, ← add_of_add]
      generalize l[o + q]'(by omega) = e at hx AT
      rcases (show r = 0 ∨ r = 1 ∨ r = 2 by omega) with rfl | rfl | rfl
      · simp [E.cells] at hx; subst hx; rw [add_zero']; exact AT.c0
      · simp [E.cells] at hx; subst hx; rw [Addr.add, if_neg (by omega)]; exact AT.c1
      · simp [E.cells] at hx; subst hx; rw [Addr.add, if_neg (by omega)]; exact AT.c2) (ents_one _) h63 hb
  exact ⟨v', w', h1, by rw [ents_append]; exact h2, h3, h4⟩
/-- a node by value, and its room -/
theorem node_of2 {H : Type} {enc : TypeId × Value → H} {w : World} {base : Nat} {v : Value} {d : DataW H} {ps : List MemPlace} (hok : Value.okWide Try.prog w .any base 24 v) (h : DataW.Trod enc Try.prog w 0 (fun _ => true) true 24 v d ps) :
    ∃ (leaf : Bool) (A : Option Addr) (n c : Nat) (l : List E), v = nodeV leaf A n c ∧ n ≤ c ∧ c ≤ maxLen ∧ (A = none → c = 0) ∧ Ents w A n l := by
  obtain ⟨leaf, A, n, c, l, rfl, hn, hE, -⟩ := node_of hok h
  obtain ⟨fuel, hf⟩ := h
  obtain ⟨xs, k, _, _, hl, hxl, hff⟩ := DataW.trod_struct Try.underlying24 (cs := [.bool leaf, .slice A n c]) (by simpa [Value.cells, nodeV] using hf)
  obtain ⟨y0, y1, rfl⟩ : ∃ y0 y1, xs = [y0, y1] := by
    match xs, hxl with
    | [a, b], _ => exact ⟨a, b, rfl⟩
  have g1 := hff 1 _ rfl
  rcases open_slice (x := y1) (cs := [.slice A n c]) Try.underlying22 g1 with ⟨hcs, _⟩ | ⟨a, len, cap, m, n', D, Pl, hcs, _, hl2, hm2, hmm, _, hall⟩
  · simp only [List.cons.injEq, Value.slice.injEq, and_true] at hcs
    obtain ⟨rfl, rfl, rfl⟩ := hcs
    exact ⟨leaf, none, 0, 0, l, rfl, Nat.le_refl _, Nat.zero_le _, fun _ => rfl, hE⟩
  · simp only [List.cons.injEq, Value.slice.injEq, and_true] at hcs
    obtain ⟨rfl, rfl, rfl⟩ := hcs
    exact ⟨leaf, some a, n, c, l, rfl, hl2, hm2, (fun h => by cases h), hE⟩
end
section
open Go.RowKit Sl
/-- what is made so far: the slice (where it is), the block of the entry, the block of the node -/
structure Fit (e : E) (wr W : World) (v : Option (Value × Nat × List E)) (gx g9 : Option Nat) : Prop where
  bw : Below wr.heap.size wr W
  sv : ∀ p, v = some p → Slc W 50 3 p.1 p.2.1 (ents p.2.2) ∧ ∀ y ∈ ownB p.1, wr.heap.size ≤ y
  xb : ∀ g, gx = some g → Blk W g 50 #[.string e.key, .string e.val, .int .i64 e.far] ∧ ∀ p, v = some p → g ∉ ownB p.1
  nb : ∀ g, g9 = some g → Blk W g 24 #[.bool false, .slice none 0 0] ∧ wr.heap.size ≤ g ∧ ∀ p, v = some p → g ∉ ownB p.1
variable {e : E} {wr W : World} {v : Option (Value × Nat × List E)} {gx g9 : Option Nat}
theorem Fit.start (e : E) (wr : World) : Fit e wr wr.drew none none none := ⟨(Below.refl _ _).drew, (fun p h => by cases h), (fun g h => by cases h), (fun g h => by cases h)⟩
theorem Fit.two (h : Fit e wr W none gx g9) : Fit e wr (W.alloc (.cells #[] 50)) (some (.slice (some ⟨W.heap.size, 0, none⟩) 0 0, 0, [])) gx g9 := by
  refine ⟨belowAlloc h.bw _, ?_, ?_, ?_⟩
  · intro p hp
    injection hp with hp
    subst hp
    exact ⟨⟨rfl, .inr ⟨W.heap.size, 0, [], rfl, Blk.new W _ #[], rfl, Nat.zero_le _⟩⟩, fun y hy => by simp [ownB] at hy; subst hy; exact h.bw.size⟩
  · intro g hg
    have hb := (h.xb g hg).1
    refine ⟨hb.alloc _, fun p hp => ?_⟩
    injection hp with hp
    subst hp
    have := hb.lt
    simp [ownB]; omega
  · intro g hg
    have hb := (h.nb g hg).1
    refine ⟨hb.alloc _, (h.nb g hg).2.1, fun p hp => ?_⟩
    injection hp with hp
    subst hp
    have := hb.lt
    simp [ownB]; omega
theorem Fit.nine (h : Fit e wr W v none g9) : Fit e wr (W.alloc (.cells #[.string e.key, .string e.val, .int .i64 e.far] 50)) v (some W.heap.size) g9 := by
  refine ⟨belowAlloc h.bw _, fun p hp => ⟨(h.sv p hp).1.alloc _, (h.sv p hp).2⟩, ?_, fun g hg => ⟨(h.nb g hg).1.alloc _, (h.nb g hg).2⟩⟩
  intro g hg
  injection hg with hg
  subst hg
  exact ⟨Blk.new W _ _, fun p hp hx => absurd ((h.sv p hp).1.lt _ hx) (Nat.lt_irrefl _)⟩
theorem Fit.node (h : Fit e wr W v gx none) : Fit e wr (W.alloc (.cells #[.bool false, .slice none 0 0] 24)) v gx (some W.heap.size) := by
  refine ⟨belowAlloc h.bw _, fun p hp => ⟨(h.sv p hp).1.alloc _, (h.sv p hp).2⟩, fun g hg => ⟨(h.xb g hg).1.alloc _, (h.xb g hg).2⟩, ?_⟩
  intro g hg
  injection hg with hg
  subst hg
  exact ⟨Blk.new W _ _, h.bw.size, fun p hp hx => absurd ((h.sv p hp).1.lt _ hx) (Nat.lt_irrefl _)⟩
theorem Fit.app {p : Value × Nat × List E} {W2 : World} {v2 : Value} {n2 : Nat} {l2 : List E} (h : Fit e wr W (some p) gx g9) (S2 : Slc W2 50 3 v2 n2 (ents l2)) (ow : Only (ownB p.1) W W2) (f2 : ∀ y ∈ ownB v2, y ∈ ownB p.1 ∨ W.heap.size ≤ y) : Fit e wr W2 (some (v2, n2, l2)) gx g9 := by
  have hs := h.sv p rfl
  refine ⟨h.bw.trans (ow.below_of h.bw.size hs.2), ?_, ?_, ?_⟩
  · intro q hq
    injection hq with hq
    subst hq
    exact ⟨S2, fun y hy => (f2 y hy).elim (hs.2 y) (fun h1 => Nat.le_trans h.bw.size h1)⟩
  · intro g hg
    obtain ⟨hb, hn⟩ := h.xb g hg
    refine ⟨hb.only ow (hn p rfl), fun q hq => ?_⟩
    injection hq with hq
    subst hq
    exact fun hx => (f2 g hx).elim (hn p rfl) (fun h1 => by have := hb.lt; omega)
  · intro g hg
    obtain ⟨hb, hge, hn⟩ := h.nb g hg
    refine ⟨hb.only ow (hn p rfl), hge, fun q hq => ?_⟩
    injection hq with hq
    subst hq
    exact fun hx => (f2 g hx).elim (hn p rfl) (fun h1 => by have := hb.lt; omega)
abbrev RL := 22
/-- a part that came in (at least o + m entries there are) -/
theorem fit_part {ad : Addr} {N : Nat} {l : List E} (H : Ents wr (some ad) N l) {v0 : Value} {n0 : Nat} {l0 : List E} (o m c n1 : Nat) (l1 : List E) (hom : o + m ≤ N) (hn1 : n0 + m = n1) (hl1 : l0 ++ (l.drop o).take m = l1) (hb : n1 ≤ 1000) (a : Addr) (ha : ad.add (o * 3) = a)
    (h : Fit e wr W (some (v0, n0, l0)) gx g9) :
    ∃ V1 k1 w2, appRun Try.prog RL RL W v0 (.slice (some a) m c) = .ok (.slice V1 n1 k1) w2 ∧ Fit e wr w2 (some (.slice V1 n1 k1, n1, l1)) gx g9 := by
  have hs := h.sv _ rfl
  obtain ⟨v', w2, e1, S2, o2, f⟩ := append_came (P := Try.prog) (l0 := l0) hs.1 (H.below h.bw) o m c hom RL RL (.agg #[.string .empty, .string .empty, .int .i64 0]) 40 Try.underlying22 (by kernel_rfl) rfl (by unfold maxLen; dsimp only; omega) (by dsimp only; omega)
  rw [hl1] at S2
  dsimp only at S2
  rw [hn1] at S2
  rw [ha] at e1
  obtain ⟨V1, k1, rfl⟩ := slc_val S2
  exact ⟨V1, k1, w2, e1, h.app S2 o2 f⟩
/-- nothing -/
theorem fit_none {v0 : Value} {n0 : Nat} {l0 : List E} (B : Option Addr) (c n1 : Nat) (l1 : List E) (hn1 : n0 = n1) (hl1 : l0 = l1) (hb : n1 ≤ 1000) (h : Fit e wr W (some (v0, n0, l0)) gx g9) :
    ∃ V1 k1 w2, appRun Try.prog RL RL W v0 (.slice B 0 c) = .ok (.slice V1 n1 k1) w2 ∧ Fit e wr w2 (some (.slice V1 n1 k1, n1, l1)) gx g9 := by
  subst hn1 hl1
  have hs := h.sv _ rfl
  obtain ⟨v', w2, e1, S2, o2, f⟩ := append_zero (P := Try.prog) hs.1 RL RL (.agg #[.string .empty, .string .empty, .int .i64 0]) 40 Try.underlying22 (by kernel_rfl) rfl B c (by unfold maxLen; dsimp only; omega) (by dsimp only; omega)
  dsimp only at S2
  obtain ⟨V1, k1, rfl⟩ := slc_val S2
  exact ⟨V1, k1, w2, e1, h.app S2 o2 f⟩
/-- the entry -/
theorem fit_one {v0 : Value} {n0 : Nat} {l0 : List E} {g : Nat} (hb : n0 ≤ 1000) (h : Fit e wr W (some (v0, n0, l0)) (some g) g9) :
    ∃ V1 k1 w2, appRun Try.prog RL RL W v0 (.slice (some ⟨g, 0, none⟩) 1 1) = .ok (.slice V1 (n0 + 1) k1) w2 ∧ Fit e wr w2 (some (.slice V1 (n0 + 1) k1, n0 + 1, l0 ++ [e])) (some g) g9 := by
  have hs := h.sv _ rfl
  have hx := (h.xb g rfl).1
  obtain ⟨v', w2, e1, S2, o2, f⟩ := append_part (P := Try.prog) (l0 := l0) (l := [e]) (rest := []) hs.1 (show Blk W g 50 (ents [e] ++ []).toArray from hx) 0 1 1 (by simp) RL RL (.agg #[.string .empty, .string .empty, .int .i64 0]) 40 Try.underlying22 (by kernel_rfl) rfl (by unfold maxLen; dsimp only; omega) (by dsimp only; omega)
  dsimp only at S2
  obtain ⟨V1, k1, rfl⟩ := slc_val S2
  exact ⟨V1, k1, w2, e1, h.app S2 o2 f⟩
/-- all is there: the node is stored -/
theorem Fit.done {g : Nat} {V : Option Addr} {n k : Nat} {l : List E} (leaf : Bool) (h : Fit e wr W (some (.slice V n k, n, l)) gx (some g)) :
    (W.frozen? ⟨g, 0, none⟩ = false ∧ W.frozen? ⟨g, 1, none⟩ = false ∧ W.cell? ⟨g, 0, none⟩ = some (.bool false) ∧ W.cell? ⟨g, 1, none⟩ = some (.slice none 0 0)) ∧
    ∃ W2, W2 = (W.setCell ⟨g, 0, none⟩ (.bool leaf)).setCell ⟨g, 1, none⟩ (.slice V n k) ∧ Blk W2 g 24 #[.bool leaf, .slice V n k] ∧ Slc W2 50 3 (.slice V n k) n (ents l) ∧ Below wr.heap.size wr W2 := by
  obtain ⟨hb, hge, hn⟩ := h.nb g rfl
  have ho := ((Only.refl [g] W).setCell (p := ⟨g, 0, none⟩) (fun _ => by simp) (.bool leaf)).setCell (p := ⟨g, 1, none⟩) (fun _ => by simp) (.slice V n k)
  exact ⟨⟨hb.frozen 0 (by simp), hb.frozen 1 (by simp), hb.cell_some (i := 0) rfl, hb.cell_some (i := 1) rfl⟩, _, rfl, (hb.set_ 0 (.bool leaf)).set_ 1 (.slice V n k),
    (h.sv _ rfl).1.only ho (fun y hy => by simp; exact fun hh => hn _ rfl (hh ▸ hy)), h.bw.trans (ho.below_of h.bw.size (fun y hy => by simp at hy; subst hy; exact hge))⟩
end
section
open Go.RowKit Sl
attribute [local go_sem ↓] Go.wp_at_zero Go.wp_at_succ exec_app
set_option maxRecDepth 100000 in
set_option maxHeartbeats 8000000 in
theorem fits_idle {w : World} (leaf : Bool) (A : Option Addr) (n c : Nat) (l : List E) (xk xv : ByteArray) (xf : Int) (h : Ents w A n l) (hn : n ≤ 9223372036854775807) (hno : ¬ (lightP l ∧ xk.size ≤ 200 ∧ xv.size ≤ 200)) :
    Calls Try.prog 7 #[nodeV leaf A n c, .agg #[.string xk, .string xv, .int .i64 xf]] w fun e w' => e = .returned (.bool true) ∧ Below w.heap.size w w' := by
  have O0 := belowAlloc (belowAlloc (Below.refl w.heap.size w) (.cells #[.bool leaf, .slice A n c] 24)) (.cells #[.string xk, .string xv, .int .i64 xf] 50)
  have B0 := Lib.hid ((Blk.new w 24 #[.bool leaf, .slice A n c]).alloc (.cells #[.string xk, .string xv, .int .i64 xf] 50))
  have X0 := Blk.new (w.alloc (.cells #[.bool leaf, .slice A n c] 24)) 50 #[.string xk, .string xv, .int .i64 xf]
  rw [asz] at X0
  have X0 := Lib.hid X0
  have H0 := Lib.hid (h.below O0)
  have HLEN := Lib.hid h.1
  have O0 := Lib.hid O0
  have KL := Lib.hid (light_any (w := (w.alloc (.cells #[.bool leaf, .slice A n c] 24)).alloc (.cells #[.string xk, .string xv, .int .i64 xf] 50)) leaf A n c l H0.out (by omega))
  clear h
  have x0 : ((w.alloc (.cells #[.bool leaf, .slice A n c] 24)).alloc (.cells #[.string xk, .string xv, .int .i64 xf] 50)).cell? ⟨w.heap.size + 1, 0, none⟩ = some (.string xk) := X0.out.cell_some (i := 0) rfl
  have x1 : ((w.alloc (.cells #[.bool leaf, .slice A n c] 24)).alloc (.cells #[.string xk, .string xv, .int .i64 xf] 50)).cell? ⟨w.heap.size + 1, 1, none⟩ = some (.string xv) := X0.out.cell_some (i := 1) rfl
  unfold nodeV at *
  go_enter Try.func7, Try.ntmps7
  go_wp2_with fail
  generalize hW : ((w.alloc (.cells #[.bool leaf, .slice A n c] 24)).alloc (.cells #[.string xk, .string xv, .int .i64 xf] 50)) = W0 at *
  clear hW x0 x1
  refine KL.out.mono ?_
  rintro e w1 ⟨⟨b, rfl, hb⟩, hb1⟩
  have O1 := Lib.hid (bstep O0.out hb1)
  have B1 := Lib.hid (B0.out.below hb1 B0.out.lt)
  have X1 := Lib.hid (X0.out.below hb1 X0.out.lt)
  have H1 := Lib.hid (H0.out.below hb1)
  have c0 : w1.cell? ⟨w.heap.size, 0, none⟩ = some (.bool leaf) := B1.out.cell_some (i := 0) rfl
  have c1 : w1.cell? ⟨w.heap.size, 1, none⟩ = some (.slice A n c) := B1.out.cell_some (i := 1) rfl
  have x0 : w1.cell? ⟨w.heap.size + 1, 0, none⟩ = some (.string xk) := X1.out.cell_some (i := 0) rfl
  have x1 : w1.cell? ⟨w.heap.size + 1, 1, none⟩ = some (.string xv) := X1.out.cell_some (i := 1) rfl
  have x2 : w1.cell? ⟨w.heap.size + 1, 2, none⟩ = some (.int .i64 xf) := X1.out.cell_some (i := 2) rfl
  clear hb1 KL
  cases b
  · clear hb
    go_wp2_with fail
    refine (awake18_any _).mono ?_
    rintro e wz ⟨rfl, hbz⟩
    have OZ := Lib.hid (bstep O1.out hbz)
    clear hbz
    go_wp2_with fail
    go_ret
    exact ⟨by first | rfl | simp, OZ.out⟩
  · have hl := hb.1 rfl
    have hx : 200 < xk.size ∨ (¬ 200 < xk.size ∧ 200 < xv.size) := by
      by_cases h1 : 200 < xk.size
      · exact .inl h1
      · exact .inr ⟨h1, by
          have := hno
          by_cases h2 : 200 < xv.size
          · exact h2
          · exact absurd ⟨hl, by omega, by omega⟩ hno⟩
    clear hno hb hl
    rcases hx with h1 | ⟨h1, h2⟩
    · have h1I : (200 : Int) < (xk.size : Int) := by omega
      go_wp2_with fail
      refine (awake18_any _).mono ?_
      rintro e wz ⟨rfl, hbz⟩
      have OZ := Lib.hid (bstep O1.out hbz)
      clear hbz
      go_wp2_with fail
      go_ret
      exact ⟨by first | rfl | simp, OZ.out⟩
    · have h1I : ¬ (200 : Int) < (xk.size : Int) := by omega
      have h2I : (200 : Int) < (xv.size : Int) := by omega
      go_wp2_with fail
      refine (awake18_any _).mono ?_
      rintro e wz ⟨rfl, hbz⟩
      have OZ := Lib.hid (bstep O1.out hbz)
      clear hbz
      go_wp2_with fail
      go_ret
      exact ⟨by first | rfl | simp, OZ.out⟩
set_option maxRecDepth 100000 in
set_option maxHeartbeats 8000000 in
theorem fits_fail {w : World} (leaf : Bool) (A : Option Addr) (n c : Nat) (l : List E) (xk xv : ByteArray) (xf : Int) (h : Ents w A n l) (hn : n ≤ 9223372036854775807) (hn60 : n ≤ 60) (hnc : n ≤ c) (hcm : c ≤ maxLen) (hl : lightP l) (hk : xk.size ≤ 200) (hv : xv.size ≤ 200) (hf : ¬ (mayP l leaf ∧ 0 ≤ roomR (recsN leaf l))) :
    Calls Try.prog 7 #[nodeV leaf A n c, .agg #[.string xk, .string xv, .int .i64 xf]] w fun e w' => e = .returned (.bool true) ∧ Below w.heap.size w w' := by
  have O0 := belowAlloc (belowAlloc (Below.refl w.heap.size w) (.cells #[.bool leaf, .slice A n c] 24)) (.cells #[.string xk, .string xv, .int .i64 xf] 50)
  have B0 := Lib.hid ((Blk.new w 24 #[.bool leaf, .slice A n c]).alloc (.cells #[.string xk, .string xv, .int .i64 xf] 50))
  have X0 := Blk.new (w.alloc (.cells #[.bool leaf, .slice A n c] 24)) 50 #[.string xk, .string xv, .int .i64 xf]
  rw [asz] at X0
  have X0 := Lib.hid X0
  have H0 := Lib.hid (h.below O0)
  have HLEN := Lib.hid h.1
  have O0 := Lib.hid O0
  have KL := Lib.hid (light_any (w := (w.alloc (.cells #[.bool leaf, .slice A n c] 24)).alloc (.cells #[.string xk, .string xv, .int .i64 xf] 50)) leaf A n c l H0.out (by omega))
  clear h
  have x0 : ((w.alloc (.cells #[.bool leaf, .slice A n c] 24)).alloc (.cells #[.string xk, .string xv, .int .i64 xf] 50)).cell? ⟨w.heap.size + 1, 0, none⟩ = some (.string xk) := X0.out.cell_some (i := 0) rfl
  have x1 : ((w.alloc (.cells #[.bool leaf, .slice A n c] 24)).alloc (.cells #[.string xk, .string xv, .int .i64 xf] 50)).cell? ⟨w.heap.size + 1, 1, none⟩ = some (.string xv) := X0.out.cell_some (i := 1) rfl
  unfold nodeV at *
  go_enter Try.func7, Try.ntmps7
  go_wp2_with fail
  generalize hW : ((w.alloc (.cells #[.bool leaf, .slice A n c] 24)).alloc (.cells #[.string xk, .string xv, .int .i64 xf] 50)) = W0 at *
  clear hW x0 x1
  refine KL.out.mono ?_
  rintro e w1 ⟨⟨b, rfl, hb⟩, hb1⟩
  have O1 := Lib.hid (bstep O0.out hb1)
  have B1 := Lib.hid (B0.out.below hb1 B0.out.lt)
  have X1 := Lib.hid (X0.out.below hb1 X0.out.lt)
  have H1 := Lib.hid (H0.out.below hb1)
  have c0 : w1.cell? ⟨w.heap.size, 0, none⟩ = some (.bool leaf) := B1.out.cell_some (i := 0) rfl
  have c1 : w1.cell? ⟨w.heap.size, 1, none⟩ = some (.slice A n c) := B1.out.cell_some (i := 1) rfl
  have x0 : w1.cell? ⟨w.heap.size + 1, 0, none⟩ = some (.string xk) := X1.out.cell_some (i := 0) rfl
  have x1 : w1.cell? ⟨w.heap.size + 1, 1, none⟩ = some (.string xv) := X1.out.cell_some (i := 1) rfl
  have x2 : w1.cell? ⟨w.heap.size + 1, 2, none⟩ = some (.int .i64 xf) := X1.out.cell_some (i := 2) rfl
  clear hb1 KL
  obtain rfl := hb.2 hl
  clear hb hl
  have k1I : ¬ (200 : Int) < (xk.size : Int) := by omega
  have k2I : ¬ (200 : Int) < (xv.size : Int) := by omega
  have KT := Lib.hid (to_any (w := w1) leaf A n c l H1.out (by omega))
  unfold nodeV at KT
  go_wp2_with fail
  refine KT.out.mono ?_
  rintro e w2 ⟨⟨TA, tc, rfl, TS, -⟩, hb2⟩
  have O2 := Lib.hid (bstep O1.out hb2)
  have B2 := Lib.hid (B1.out.below hb2 B1.out.lt)
  have X2 := Lib.hid (X1.out.below hb2 X1.out.lt)
  have H2 := Lib.hid (H1.out.below hb2)
  have ET := Lib.hid (Slc.ents TS).2
  clear hb2 TS KT c0 c1 x0 x1 x2
  obtain ⟨KP⟩ : Nonempty (Hid (Calls Try.prog 10 #[.agg #[.bool leaf, .slice TA n tc]] w2 fun r w' => (∃ er : Int, r = .returned (.tuple #[.string ⟨#[]⟩, .int .i64 er]) ∧ (er == 0) = false ∧ ¬ er = 0) ∧ Below w2.heap.size w2 w')) := by
    by_cases hm : mayP l leaf
    · have := put_yes leaf TA n tc l ET.out (by omega) hm
      unfold nodeV at this
      refine ⟨Lib.hid (this.mono fun r w' hx => ?_)⟩
      rcases hx with ⟨hx, hb⟩
      rcases hx with ⟨h0, _⟩ | ⟨_, rfl⟩
      · exact absurd ⟨hm, h0⟩ hf
      · exact ⟨⟨11, rfl, by decide, by decide⟩, hb⟩
    · have := put_no leaf TA n tc l ET.out (by omega) hm
      unfold nodeV at this
      exact ⟨Lib.hid (this.mono fun r w' hx => ⟨⟨2, hx.1, by decide, by decide⟩, hx.2⟩)⟩
  clear hf
  go_wp2_with fail
  refine KP.out.mono ?_
  rintro e w3 ⟨⟨er, rfl, he1, he2⟩, hb3⟩
  have O3 := Lib.hid (bstep O2.out hb3)
  have B3 := Lib.hid (B2.out.below hb3 B2.out.lt)
  have X3 := Lib.hid (X2.out.below hb3 X2.out.lt)
  have H3 := Lib.hid (H2.out.below hb3)
  clear hb3
  go_wp2_with fail
  have HK := Lib.hid (show ∀ W', Below w3.heap.size w3 W' → (W'.cell? ⟨w.heap.size, 0, none⟩ = some (.bool leaf) ∧ W'.cell? ⟨w.heap.size, 1, none⟩ = some (.slice A n c) ∧ W'.cell? ⟨w.heap.size + 1, 0, none⟩ = some (.string xk)) from fun W' ho => ⟨(B3.out.below ho B3.out.lt).cell_some (i := 0) rfl, (B3.out.below ho B3.out.lt).cell_some (i := 1) rfl, (X3.out.below ho X3.out.lt).cell_some (i := 0) rfl⟩)
  have OD := Lib.hid ((Below.refl w3.heap.size w3).drew)
  refine wp_region_held_drew (S := fun W' => W'.cell? ⟨w.heap.size, 0, none⟩ = some (.bool leaf) ∧ W'.cell? ⟨w.heap.size, 1, none⟩ = some (.slice A n c) ∧ W'.cell? ⟨w.heap.size + 1, 0, none⟩ = some (.string xk)) (by kernel_rfl) (HK.out _ OD.out) (fun hHeld => ?_)
  refine wpAnyH_take (i := 0) (oi := ⟨some 39, _, _, _, _, _⟩) (v := ?_) rfl (by kernel_rfl) (by kernel_rfl) (by kernel_rfl) (fun _ _ _ h => h) (Or.inl ⟨by kernel_rfl, ?_⟩) (by assumption) ?_
  rotate_left
  · (intro w hSw; (try dsimp only at hSw); go_simp; (try (with_reducible rfl)))
  try simp only [Act.put, List.setIfInBounds_toArray, List.set_cons_zero, List.set_cons_succ]
  refine wpAnyH_take (i := 2) (oi := ⟨some 41, _, _, _, _, _⟩) (v := ?_) rfl (by kernel_rfl) (by kernel_rfl) (by kernel_rfl) (fun _ _ _ h => h) (Or.inl ⟨by kernel_rfl, ?_⟩) (by assumption) ?_
  rotate_left
  · (intro w hSw; (try dsimp only at hSw); go_simp; (try (with_reducible rfl)))
  try simp only [Act.put, List.setIfInBounds_toArray, List.set_cons_zero, List.set_cons_succ]
  refine wpAnyH_take (i := 3) (oi := ⟨some 42, _, _, _, _, _⟩) (v := ?_) rfl (by kernel_rfl) (by kernel_rfl) (by kernel_rfl) (fun _ _ _ h => h) (Or.inl ⟨by kernel_rfl, ?_⟩) (by assumption) ?_
  rotate_left
  · (intro w hSw; (try dsimp only at hSw); go_simp; (try (with_reducible rfl)))
  try simp only [Act.put, List.setIfInBounds_toArray, List.set_cons_zero, List.set_cons_succ]
  refine wpAnyH_ready (rs := [1]) (by kernel_rfl) (by simp) ?_
  refine AllReadyH.cons (o := ⟨some 40, _, _, _, _, _⟩) rfl (fun K hK => ?_) AllReadyH.nil
  go_simp
  go_at_call 11
  have KT2 := to_any (w := w3.drew) leaf A n c l (H3.out.below OD.out) (by omega)
  unfold nodeV at KT2
  refine KT2.mono ?_
  rintro e w4 ⟨⟨UA, uc, rfl, US, -⟩, hb4⟩
  have P4 := Lib.hid (bstep OD.out hb4)
  have EU := Lib.hid (Slc.ents US).2
  clear US
  go_simp
  refine hK.out _ _ (HK.out _ P4.out) (fun hHeld => ?_)
  try simp only [Act.put, List.setIfInBounds_toArray, List.set_cons_zero, List.set_cons_succ]
  refine wpAnyH_ready (rs := [4]) (by kernel_rfl) (by simp) ?_
  refine AllReadyH.cons (o := ⟨some 43, _, _, _, _, _⟩) rfl (fun K hK => ?_) AllReadyH.nil
  go_simp
  go_at_call 22
  have KF := find_any (w := w4) leaf UA n uc l xk EU.out (by omega)
  unfold nodeV at KF
  refine KF.mono ?_
  rintro e w5 ⟨⟨k, q, rfl, hp, hh⟩, hb5⟩
  have P5 := Lib.hid (bstep P4.out hb5)
  have HP := Lib.hid hp
  have HH := Lib.hid hh
  clear hp hh
  go_simp
  refine hK.out _ _ (HK.out _ P5.out) (fun hHeld => ?_)
  try simp only [Act.put, List.setIfInBounds_toArray, List.set_cons_zero, List.set_cons_succ]
  refine wpAnyH_take (i := 5) (oi := ⟨some 38, _, _, _, _, _⟩) (v := ?_) rfl (by kernel_rfl) (by kernel_rfl) (by kernel_rfl) (fun _ _ _ h => h) (Or.inl ⟨by kernel_rfl, ?_⟩) (by assumption) ?_
  rotate_left
  · (intro w hSw; (try dsimp only at hSw); go_simp; (try (with_reducible rfl)))
  try simp only [Act.put, List.setIfInBounds_toArray, List.set_cons_zero, List.set_cons_succ]
  refine wpAnyH_take (i := 6) (oi := ⟨some 44, _, _, _, _, _⟩) (v := ?_) rfl (by kernel_rfl) (by kernel_rfl) (by kernel_rfl) (fun _ _ _ h => h) (Or.inl ⟨by kernel_rfl, ?_⟩) (by assumption) ?_
  rotate_left
  · (intro w hSw; (try dsimp only at hSw); go_simp; (try (with_reducible rfl)))
  try simp only [Act.put, List.setIfInBounds_toArray, List.set_cons_zero, List.set_cons_succ]
  refine wpAnyH_take (i := 7) (oi := ⟨some 45, _, _, _, _, _⟩) (v := ?_) rfl (by kernel_rfl) (by kernel_rfl) (by kernel_rfl) (fun _ _ _ h => h) (Or.inl ⟨by kernel_rfl, ?_⟩) (by assumption) ?_
  rotate_left
  · (intro w hSw; (try dsimp only at hSw); go_simp; (try (with_reducible rfl)))
  try simp only [Act.put, List.setIfInBounds_toArray, List.set_cons_zero, List.set_cons_succ]
  refine wpAnyH_take (i := 8) (oi := ⟨some 7, _, _, _, _, _⟩) (v := ?_) rfl (by kernel_rfl) (by kernel_rfl) (by kernel_rfl) (fun _ _ _ h => h) (Or.inl ⟨by kernel_rfl, ?_⟩) (by assumption) ?_
  rotate_left
  · (intro w hSw; (try dsimp only at hSw); go_simp; (try (with_reducible rfl)))
  try simp only [Act.put, List.setIfInBounds_toArray, List.set_cons_zero, List.set_cons_succ]
  refine wpAnyH_take (i := 9) (oi := ⟨some 8, _, _, _, _, _⟩) (v := ?_) rfl (by kernel_rfl) (by kernel_rfl) (by kernel_rfl) (fun _ _ _ h => h) (Or.inl ⟨by kernel_rfl, ?_⟩) (by assumption) ?_
  rotate_left
  · (intro w hSw; (try dsimp only at hSw); go_simp; (try (with_reducible rfl)))
  try simp only [Act.put, List.setIfInBounds_toArray, List.set_cons_zero, List.set_cons_succ]
  refine wpAnyH_done (by kernel_rfl) ?_ _
  have O5 := Lib.hid (bstep O3.out P5.out)
  have B5 := Lib.hid (B3.out.below P5.out B3.out.lt)
  have X5 := Lib.hid (X3.out.below P5.out X3.out.lt)
  have H5 := Lib.hid (H3.out.below P5.out)
  have hkn : k ≤ n := by have := HP.out.1; rw [HLEN.out] at this; exact this
  clear hHeld hb4 hb5 P4 P5 HK
  go_wp2_with fail
  refine (awake18_any _).mono ?_
  rintro e wz ⟨rfl, hbz⟩
  have OZ := Lib.hid (bstep O5.out hbz)
  clear hbz
  go_wp2_with fail
  go_ret
  exact ⟨by first | rfl | simp, OZ.out⟩
end
end Go.Proofs.Yticehnnbjbliaab.Nd
