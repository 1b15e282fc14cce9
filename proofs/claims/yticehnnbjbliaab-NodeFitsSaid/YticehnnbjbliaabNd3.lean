/- nodes: an entry read. -/
import Derived.Test.YticehnnbjbliaabNd2
import Derived.Laws.ResultCell
namespace Go.Proofs.Yticehnnbjbliaab.Nd
open Go.RowKit Sl
attribute [local go_sem ↓] Go.wp_at_zero Go.wp_at_succ
def entryK (s : ByteArray) : Nat := (s.data.toList.getD 0 0).toNat
def entryOk (s : ByteArray) : Prop := 3 + entryK s ≤ s.size
def entryE (s : ByteArray) : E := ⟨s.extract 1 (1 + entryK s), s.extract (3 + entryK s) s.size, (at2 s.data.toList (1 + entryK s) : Int) - 1⟩
def E.zero : E := ⟨.empty, .empty, 0⟩
theorem ret_entry {fn : Func} {p u : Tmp} {w : World} {g : Nat} {a b : ByteArray} {c : Int} {tmps : Array Value} (h : fn.results = #[.cell p 56, .tmp u]) (hp : tmps.getD p undef = .pointer (some ⟨g, 0, none⟩)) (B : Blk w g 56 #[.string a, .string b, .int .i64 c]) :
    (results fn tmps).run Try.prog w = .ok (.tuple #[.agg #[.string a, .string b, .int .i64 c], tmps.getD u undef]) w := by
  have c0 := B.cell_some (i := 0) rfl
  have c1 := B.cell_some (i := 1) rfl
  have c2 := B.cell_some (i := 2) rfl
  rw [results_cell_tmp h, hp]
  clear h hp B
  go_simp
set_option maxRecDepth 100000 in
set_option maxHeartbeats 2000000 in
theorem entry_no (w : World) (s : ByteArray) (h : ¬ entryOk s) :
    Calls Try.prog 32 #[.string s] w fun r w' => r = .returned (.tuple #[E.zero.agg, .bool false]) ∧ Below w.heap.size w w' := by
  have O0 := Lib.hid ((Below.refl w.heap.size w).alloc (Nat.le_refl _) (.cells #[.string .empty, .string .empty, .int .i64 0] 56))
  have B0 := Lib.hid (Blk.new w 56 #[.string .empty, .string .empty, .int .i64 0])
  unfold E.agg E.zero
  by_cases hs : s.size = 0
  · obtain rfl := size_zero hs
    go_enter Try.func32, Try.ntmps32
    go_wp2_with fail
    exact bodyPost_ret (ret_entry rfl rfl B0.out) rfl ⟨rfl, O0.out⟩
  · have hs2 := toL_empty hs
    have h0 : 0 < s.size := by omega
    have h1 : (0 : Int) < (s.size : Int) := by omega
    have hk : entryK s = s[0].toNat := by unfold entryK; rw [getD_size _ _ h0]
    unfold entryOk at h
    rw [hk] at h
    have b0 := s[0].toNat_lt
    have h2 : (s.size : Int) < 3 + (s[0].toNat : Int) := by omega
    have e4 : IntKind.i64.wrap (s[0].toNat : Int) = (s[0].toNat : Int) := IntWalk.i64_in _ (by omega)
    have e5 : IntKind.i64.wrap (3 + (s[0].toNat : Int)) = 3 + (s[0].toNat : Int) := IntWalk.i64_in _ (by omega)
    go_enter Try.func32, Try.ntmps32
    go_wp2_with fail
    exact bodyPost_ret (ret_entry rfl rfl B0.out) rfl ⟨rfl, O0.out⟩
set_option maxRecDepth 100000 in
set_option maxHeartbeats 2000000 in
theorem entry_yes (w : World) (s : ByteArray) (h : entryOk s) (hs : s.size ≤ 1000000) :
    Calls Try.prog 32 #[.string s] w fun r w' => r = .returned (.tuple #[(entryE s).agg, .bool true]) ∧ Below w.heap.size w w' := by
  have O0 := Lib.hid ((Below.refl w.heap.size w).alloc (Nat.le_refl _) (.cells #[.string .empty, .string .empty, .int .i64 0] 56))
  have B0 := Lib.hid (Blk.new w 56 #[.string .empty, .string .empty, .int .i64 0])
  unfold entryOk at h
  have hs2 := toL_empty (s := s) (by omega)
  have h0 : 0 < s.size := by omega
  have h1 : (0 : Int) < (s.size : Int) := by omega
  have hk : entryK s = s[0].toNat := by unfold entryK; rw [getD_size _ _ h0]
  rw [hk] at h
  have hE := Lib.hid (show (entryE s).agg = .agg #[.string (s.extract 1 (1 + s[0].toNat)), .string (s.extract (3 + s[0].toNat) s.size), .int .i64 ((at2 s.data.toList (1 + s[0].toNat) : Int) - 1)] from by unfold E.agg entryE; rw [hk])
  have b0 := s[0].toNat_lt
  have h2 : ¬ (s.size : Int) < 3 + (s[0].toNat : Int) := by omega
  have e4 : IntKind.i64.wrap (s[0].toNat : Int) = (s[0].toNat : Int) := IntWalk.i64_in _ (by omega)
  have e5 : IntKind.i64.wrap (3 + (s[0].toNat : Int)) = 3 + (s[0].toNat : Int) := IntWalk.i64_in _ (by omega)
  have e6 : IntKind.i64.wrap (1 + (s[0].toNat : Int)) = 1 + (s[0].toNat : Int) := IntWalk.i64_in _ (by omega)
  go_enter Try.func32, Try.ntmps32
  go_wp2_with fail
  obtain ⟨k, hkk⟩ : ∃ k, 1 + s[0].toNat = k := ⟨_, rfl⟩
  have hkI : (1 : Int) + ((s[0].toNat : Nat) : Int) = ((k : Nat) : Int) := by omega
  rw [hkI]
  have hk1 : k < s.size := by omega
  have hk2 : k + 1 < s.size := by omega
  have b1 := s[k].toNat_lt
  have b2 := s[k + 1].toNat_lt
  have HV := Lib.hid (show bits .or .i64 ((s[k].toNat : Int) * 256) (s[k + 1].toNat : Int) = ((at2 s.data.toList k : Nat) : Int) from by
    rw [or8 _ _ (by omega) (by omega)]; unfold at2; rw [getD_size _ _ hk1, getD_size _ _ hk2])
  have e1 : IntKind.i64.wrap ((k : Int) + 1) = (k : Int) + 1 := IntWalk.i64_in _ (by omega)
  have e2 : (0 : Int) ≤ (k : Int) + 1 := by omega
  have e3 : ((k : Int) + 1).toNat = k + 1 := by omega
  have e7 : (k : Int) + 1 < (s.size : Int) := by omega
  have e8 : (k : Int) < (s.size : Int) := by omega
  have v1 : IntKind.i64.wrap (s[k].toNat : Int) = (s[k].toNat : Int) := IntWalk.i64_in _ (by omega)
  have v2 : IntKind.i64.wrap ((s[k].toNat : Int) * 256) = (s[k].toNat : Int) * 256 := IntWalk.i64_in _ (by omega)
  have v3 : IntKind.i64.wrap (s[k + 1].toNat : Int) = (s[k + 1].toNat : Int) := IntWalk.i64_in _ (by omega)
  have z1 : IntKind.i64.wrap ((k : Int) + 2) = (k : Int) + 2 := IntWalk.i64_in _ (by omega)
  have z2 : (0 : Int) ≤ (k : Int) + 2 := by omega
  have z3 : ((k : Int) + 2).toNat = k + 2 := by omega
  have z4 : (k : Int) + 2 ≤ (s.size : Int) := by omega
  have z5 : (k : Int) ≤ (s.size : Int) := by omega
  have z6 : (1 : Int) ≤ (k : Int) := by omega
  go_quiet (fail)
  rw [HV.out]
  have u0 := List.getD s.data.toList k 0 |>.toNat_lt
  have u1 := List.getD s.data.toList (k + 1) 0 |>.toNat_lt
  have z7 : IntKind.i64.wrap ((at2 s.data.toList k : Int) - 1) = (at2 s.data.toList k : Int) - 1 := IntWalk.i64_in _ (by unfold at2; omega)
  go_wp2_with fail
  refine wp_region_held_drew (S := fun _ => True) (by kernel_rfl) trivial (fun hHeld => ?_)
  refine wpAnyH_take (i := 0) (oi := ⟨some 33, _, _, _, _, _⟩) (v := ?_) rfl (by kernel_rfl) (by kernel_rfl) (by kernel_rfl) (fun _ _ _ h => h) (Or.inl ⟨by kernel_rfl, ?_⟩) (by assumption) ?_
  rotate_left
  · (intro w hSw; (try dsimp only at hSw); go_simp; (try (with_reducible rfl)))
  try simp only [Act.put, List.setIfInBounds_toArray, List.set_cons_zero, List.set_cons_succ]
  refine wpAnyH_take (i := 1) (oi := ⟨some 34, _, _, _, _, _⟩) (v := ?_) rfl (by kernel_rfl) (by kernel_rfl) (by kernel_rfl) (fun _ _ _ h => h) (Or.inl ⟨by kernel_rfl, ?_⟩) (by assumption) ?_
  rotate_left
  · (intro w hSw; (try dsimp only at hSw); go_simp; (try (with_reducible rfl)))
  try simp only [Act.put, List.setIfInBounds_toArray, List.set_cons_zero, List.set_cons_succ]
  refine wpAnyH_take (i := 2) (oi := ⟨some 35, _, _, _, _, _⟩) (v := ?_) rfl (by kernel_rfl) (by kernel_rfl) (by kernel_rfl) (fun _ _ _ h => h) (Or.inl ⟨by kernel_rfl, ?_⟩) (by assumption) ?_
  rotate_left
  · (intro w hSw; (try dsimp only at hSw); go_simp; (try (with_reducible rfl)))
  try simp only [Act.put, List.setIfInBounds_toArray, List.set_cons_zero, List.set_cons_succ]
  refine wpAnyH_take (i := 3) (oi := ⟨some 36, _, _, _, _, _⟩) (v := ?_) rfl (by kernel_rfl) (by kernel_rfl) (by kernel_rfl) (fun _ _ _ h => h) (Or.inl ⟨by kernel_rfl, ?_⟩) (by assumption) ?_
  rotate_left
  · (intro w hSw; (try dsimp only at hSw); go_simp; (try (with_reducible rfl)))
  try simp only [Act.put, List.setIfInBounds_toArray, List.set_cons_zero, List.set_cons_succ]
  refine wpAnyH_take (i := 4) (oi := ⟨some 37, _, _, _, _, _⟩) (v := ?_) rfl (by kernel_rfl) (by kernel_rfl) (by kernel_rfl) (fun _ _ _ h => h) (Or.inl ⟨by kernel_rfl, ?_⟩) (by assumption) ?_
  rotate_left
  · (intro w hSw; (try dsimp only at hSw); go_simp; (try (with_reducible rfl)))
  try simp only [Act.put, List.setIfInBounds_toArray, List.set_cons_zero, List.set_cons_succ]
  refine wpAnyH_take (i := 5) (oi := ⟨some 38, _, _, _, _, _⟩) (v := ?_) rfl (by kernel_rfl) (by kernel_rfl) (by kernel_rfl) (fun _ _ _ h => h) (Or.inl ⟨by kernel_rfl, ?_⟩) (by assumption) ?_
  rotate_left
  · (intro w hSw; (try dsimp only at hSw); go_simp; (try (with_reducible rfl)))
  try simp only [Act.put, List.setIfInBounds_toArray, List.set_cons_zero, List.set_cons_succ]
  refine wpAnyH_take (i := 6) (oi := ⟨some 39, _, _, _, _, _⟩) (v := ?_) rfl (by kernel_rfl) (by kernel_rfl) (by kernel_rfl) (fun _ _ _ h => h) (Or.inl ⟨by kernel_rfl, ?_⟩) (by assumption) ?_
  rotate_left
  · (intro w hSw; (try dsimp only at hSw); go_simp; (try (with_reducible rfl)))
  try simp only [Act.put, List.setIfInBounds_toArray, List.set_cons_zero, List.set_cons_succ]
  refine wpAnyH_take (i := 7) (oi := ⟨some 40, _, _, _, _, _⟩) (v := ?_) rfl (by kernel_rfl) (by kernel_rfl) (by kernel_rfl) (fun _ _ _ h => h) (Or.inl ⟨by kernel_rfl, ?_⟩) (by assumption) ?_
  rotate_left
  · (intro w hSw; (try dsimp only at hSw); go_simp; (try (with_reducible rfl)))
  try simp only [Act.put, List.setIfInBounds_toArray, List.set_cons_zero, List.set_cons_succ]
  refine wpAnyH_take (i := 8) (oi := ⟨some 41, _, _, _, _, _⟩) (v := ?_) rfl (by kernel_rfl) (by kernel_rfl) (by kernel_rfl) (fun _ _ _ h => h) (Or.inl ⟨by kernel_rfl, ?_⟩) (by assumption) ?_
  rotate_left
  · (intro w hSw; (try dsimp only at hSw); go_simp; (try (with_reducible rfl)))
  try simp only [Act.put, List.setIfInBounds_toArray, List.set_cons_zero, List.set_cons_succ]
  refine wpAnyH_take (i := 9) (oi := ⟨some 42, _, _, _, _, _⟩) (v := ?_) rfl (by kernel_rfl) (by kernel_rfl) (by kernel_rfl) (fun _ _ _ h => h) (Or.inl ⟨by kernel_rfl, ?_⟩) (by assumption) ?_
  rotate_left
  · (intro w hSw; (try dsimp only at hSw); go_simp; (try (with_reducible rfl)))
  try simp only [Act.put, List.setIfInBounds_toArray, List.set_cons_zero, List.set_cons_succ]
  refine wpAnyH_ready (rs := [10]) (by kernel_rfl) (by simp) ?_
  refine AllReadyH.cons (o := ⟨none, _, _, _, _, _⟩) rfl (fun K hK => ?_) AllReadyH.nil
  go_simp
  refine hK.out _ _ trivial (fun hHeld => ?_)
  try simp only [Act.put, List.setIfInBounds_toArray, List.set_cons_zero, List.set_cons_succ]
  refine wpAnyH_take (i := 11) (oi := ⟨some 3, _, _, _, _, _⟩) (v := ?_) rfl (by kernel_rfl) (by kernel_rfl) (by kernel_rfl) (fun _ _ _ h => h) (Or.inl ⟨by kernel_rfl, ?_⟩) (by assumption) ?_
  rotate_left
  · (intro w hSw; (try dsimp only at hSw); go_simp; (try (with_reducible rfl)))
  try simp only [Act.put, List.setIfInBounds_toArray, List.set_cons_zero, List.set_cons_succ]
  refine wpAnyH_done (by kernel_rfl) ?_ _
  go_wp2_with fail
  have BB := ((((B0.out.drewN (nq + 1)).set_ 0 (.string (s.extract 1 k))).set_ 1 (.string (s.extract (k + 2) s.size))).set_ 2 (.int .i64 ((at2 s.data.toList k : Int) - 1)))
  refine bodyPost_ret (ret_entry rfl rfl BB) rfl ⟨?_, ?_⟩
  · have hE2 : (entryE s).agg = .agg #[.string (s.extract 1 k), .string (s.extract (k + 2) s.size), .int .i64 ((at2 s.data.toList k : Int) - 1)] := by
      rw [hE.out, ← hkk, show 3 + s[0].toNat = 1 + s[0].toNat + 2 by omega]
    rw [hE2]; rfl
  · have hn : w.heap.size < w.heap.size → w.heap.size ∈ ([] : List Nat) := fun h => absurd h (Nat.lt_irrefl _)
    exact ((((Only.of_below (S := []) (Below_drewN O0.out (nq + 1))).setCell (p := ⟨w.heap.size, 0, none⟩) hn _).setCell (p := ⟨w.heap.size, 1, none⟩) hn _).setCell (p := ⟨w.heap.size, 2, none⟩) hn _).below_nil
end Go.Proofs.Yticehnnbjbliaab.Nd
