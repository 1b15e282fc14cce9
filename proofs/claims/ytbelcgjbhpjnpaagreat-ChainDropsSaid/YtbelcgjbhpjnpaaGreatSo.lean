/- slices.Sort at a slice of ints of the call's own (the laying: printed by the kit's tool). -/
import Derived.Test.YtbelcgjbhpjnpaaGreatSa
import Derived.Shelf.Sort.Plain
import Derived.Shelf.Slices.In.SortNone
import Derived.Sort.OwnSortedInts
set_option linter.all false
set_option linter.unusedVariables false
set_option linter.unusedSimpArgs false
namespace Go.Proofs.YtbelcgjbhpjnpaaGreat.Sh
open Go.RowKit Go.Sort Go.Shelf
def lays189_ren : Go.Shelf.Ren := ⟨fun | 189 => 81 | 125 => 148 | 257 => 147 | 128 => 189 | 129 => 190 | 294 => 180 | 295 => 181 | 296 => 182 | 297 => 183 | 298 => 184 | 299 => 185 | 216 => 186 | 300 => 187 | 301 => 188 | 328 => 202 | 329 => 203 | 330 => 204 | 331 => 205 | 332 => 206 | 215 => 207 | 343 => 213 | n => n, fun | 28 => 52 | 3 => 3 | 46 => 170 | 0 => 0 | 51 => 171 | 53 => 173 | 4 => 4 | 183 => 201 | 182 => 200 | 131 => 205 | 5 => 5 | 9 => 9 | 218 => 216 | 222 => 220 | 228 => 227 | 229 => 228 | n => n, fun | n => n⟩
theorem lays189 : Go.Proofs.Lays.n189 Tryz.prog lays189_ren := {
 mixed := by kernel_rfl
 f125 := Tryz.func148.trans (congrArg some (by kernel_rfl))
 f128 := Tryz.func189.trans (congrArg some (by kernel_rfl))
 f129 := Tryz.func190.trans (congrArg some (by kernel_rfl))
 f189 := Tryz.func81.trans (congrArg some (by kernel_rfl))
 f215 := Tryz.func207.trans (congrArg some (by kernel_rfl))
 f216 := Tryz.func186.trans (congrArg some (by kernel_rfl))
 f257 := Tryz.func147.trans (congrArg some (by kernel_rfl))
 f294 := Tryz.func180.trans (congrArg some (by kernel_rfl))
 f295 := Tryz.func181.trans (congrArg some (by kernel_rfl))
 f296 := Tryz.func182.trans (congrArg some (by kernel_rfl))
 f297 := Tryz.func183.trans (congrArg some (by kernel_rfl))
 f298 := Tryz.func184.trans (congrArg some (by kernel_rfl))
 f299 := Tryz.func185.trans (congrArg some (by kernel_rfl))
 f300 := Tryz.func187.trans (congrArg some (by kernel_rfl))
 f301 := Tryz.func188.trans (congrArg some (by kernel_rfl))
 f328 := Tryz.func202.trans (congrArg some (by kernel_rfl))
 f329 := Tryz.func203.trans (congrArg some (by kernel_rfl))
 f330 := Tryz.func204.trans (congrArg some (by kernel_rfl))
 f331 := Tryz.func205.trans (congrArg some (by kernel_rfl))
 f332 := Tryz.func206.trans (congrArg some (by kernel_rfl))
 f343 := Tryz.func213.trans (congrArg some (by kernel_rfl))
 t0 := Tryz.underlying0
 a0 := Tryz.isAgg0
 z0 := Tryz.sizeOf0
 v0 := Tryz.zeroValue0
 t3 := Tryz.underlying3
 a3 := Tryz.isAgg3
 z3 := Tryz.sizeOf3
 v3 := Tryz.zeroValue3
 t4 := Tryz.underlying4
 a4 := Tryz.isAgg4
 z4 := Tryz.sizeOf4
 v4 := Tryz.zeroValue4
 t5 := Tryz.underlying5
 a5 := Tryz.isAgg5
 z5 := Tryz.sizeOf5
 v5 := Tryz.zeroValue5
 t9 := Tryz.underlying9
 a9 := Tryz.isAgg9
 z9 := Tryz.sizeOf9
 v9 := Tryz.zeroValue9
 t28 := Tryz.underlying52
 a28 := Tryz.isAgg52
 z28 := Tryz.sizeOf52
 v28 := Tryz.zeroValue52
 t46 := Tryz.underlying170
 a46 := Tryz.isAgg170
 z46 := Tryz.sizeOf170
 v46 := Tryz.zeroValue170
 t51 := Tryz.underlying171
 a51 := Tryz.isAgg171
 z51 := Tryz.sizeOf171
 v51 := Tryz.zeroValue171
 t53 := Tryz.underlying173
 a53 := Tryz.isAgg173
 z53 := Tryz.sizeOf173
 v53 := Tryz.zeroValue173
 t131 := Tryz.underlying205
 a131 := Tryz.isAgg205
 z131 := Tryz.sizeOf205
 v131 := Tryz.zeroValue205
 t182 := Tryz.underlying200
 a182 := Tryz.isAgg200
 z182 := Tryz.sizeOf200
 v182 := Tryz.zeroValue200
 t183 := Tryz.underlying201
 a183 := Tryz.isAgg201
 z183 := Tryz.sizeOf201
 v183 := Tryz.zeroValue201
 t218 := Tryz.underlying216
 a218 := Tryz.isAgg216
 z218 := Tryz.sizeOf216
 v218 := Tryz.zeroValue216
 t222 := Tryz.underlying220
 a222 := Tryz.isAgg220
 z222 := Tryz.sizeOf220
 v222 := Tryz.zeroValue220
 t228 := Tryz.underlying227
 a228 := Tryz.isAgg227
 z228 := Tryz.sizeOf227
 v228 := Tryz.zeroValue227
 t229 := Tryz.underlying228
 a229 := Tryz.isAgg228
 z229 := Tryz.sizeOf228
 v229 := Tryz.zeroValue228 }
def msort (l : List Int) : List Int := l.mergeSort fun x y => decide (x ≤ y)
theorem msort_len (l : List Int) : (msort l).length = l.length := by unfold msort; simp
theorem sort_row (g cap : Nat) (zs : List Int) (w : World) (hH : Holds (Value.int .i64) w g 0 zs.toArray) (hblk : g < w.heap.size) (hsz : zs.length < 4611686018427387904) :
  Calls Tryz.prog 81 #[.slice (some ⟨g, 0, none⟩) zs.length cap] w fun e w' => e = .returned (.tuple #[]) ∧ ∃ n os, w' = grow (putRow (Value.int .i64) (Sort.ahead w n) g 0 (msort zs).toArray) os :=
 Any.slices_Sort_int lays189 g 0 cap zs w hH hblk hsz
theorem sort_none (p : Option Addr) (cap : Nat) (w : World) :
  Calls Tryz.prog 81 #[.slice p 0 cap] w fun e w' => e = .returned (.tuple #[]) ∧ w' = w :=
 Any.slices_Sort_int_none lays189 p cap w
theorem only_sorted {w : World} {g n : Nat} {os : Array Obj} (d : Array Int) : Only [g] w (grow (putRow (Value.int .i64) (Sort.ahead w n) g 0 d) os) := by
 refine ⟨rfl, rfl, rfl, by simp, fun k hk hne => ?_⟩
 rw [heap_grow_old _ _ (by simpa using hk)]
 have : g ≠ k := fun e => hne (by simp [e])
 simp [putRow, mapBlock, Sort.ahead, Array.getElem?_modify, this]
theorem putCells_app (ts : List Int) (cur rest : List Value) (h : ts.length = cur.length) : putCells (Value.int .i64) 0 ts.toArray (cur ++ rest).toArray = (ts.map (Value.int .i64) ++ rest).toArray := by
 apply Array.ext_getElem?
 intro j
 unfold putCells
 rw [Array.getElem?_mapIdx, List.getElem?_toArray, List.getElem?_toArray]
 by_cases hc : j < ts.length
 ·rw [List.getElem?_append_left (by omega), List.getElem?_append_left (by simpa using hc), List.getElem?_map, List.getElem?_eq_getElem hc, List.getElem?_eq_getElem (show j < cur.length by omega)]
  simp [hc]
 ·rw [List.getElem?_append_right (by omega), List.getElem?_append_right (by simp; omega), List.length_map, h]
  cases rest[j - cur.length]? with
  | none => rfl
  | some x =>
   simp only [Option.map_some]
   rw [if_neg (by simp; omega)]
/-- the sort of a slice that the call has made -/
theorem sort_slc {w : World} {v : Value} {l : List Int} (S : Slc w 3 1 v l.length (nvs' l)) (hl : l.length ≤ 1000000) :
  Calls Tryz.prog 81 #[v] w fun e w' => e = .returned (.tuple #[]) ∧ Slc w' 3 1 v l.length (nvs' (msort l)) ∧ Only (ownB v) w w' := by
 rcases S.2 with ⟨rfl, h0⟩ | ⟨g, cap, rest, rfl, B, hc, hm⟩
 ·rw [h0]
  have hl0 : l = [] := List.length_eq_zero_iff.1 h0
  subst hl0
  refine (sort_none none 0 w).mono ?_
  rintro e w' ⟨rfl, rfl⟩
  exact ⟨rfl, by simpa [msort, nvs'] using Slc.nil w' 3 1, Only.refl _ _⟩
 ·obtain ⟨lo, hi, hb, hf⟩ := B
  have hB : Blk w g 3 (nvs' l ++ rest).toArray := ⟨lo, hi, hb, hf⟩
  have hn : (nvs' l).length = l.length := by unfold nvs'; simp
  have hH : Holds (Value.int .i64) w g 0 l.toArray := by
   intro j hj
   have hj' : j < l.length := by simpa using hj
   refine ⟨?_, ?_⟩
   ·rw [Nat.zero_add]
    refine hB.cell_some ?_
    rw [List.getElem?_toArray, List.getElem?_append_left (by rw [hn]; exact hj')]
    simp [nvs', hj']
   ·rw [Nat.zero_add]
    exact hB.frozen j (by simp [hn]; omega)
  refine (sort_row g cap l w hH (Array.getElem?_eq_some_iff.1 hb).1 (by omega)).mono ?_
  rintro e w' ⟨rfl, n, os, rfl⟩
  refine ⟨rfl, ⟨by unfold nvs'; simp [msort_len], .inr ⟨g, cap, rest, rfl, ⟨lo, hi, ?_, ?_⟩, by unfold nvs' at hc ⊢; simpa [msort_len] using hc, hm⟩⟩, ?_⟩
  ·rw [heap_sortedI _ hb, putCells_app _ _ _ (by rw [hn, msort_len])]
   rfl
  ·simpa [nvs', msort_len] using hf
  ·simpa [ownB] using only_sorted (w := w) (g := g) (n := n) (os := os) (msort l).toArray
end Go.Proofs.YtbelcgjbhpjnpaaGreat.Sh
