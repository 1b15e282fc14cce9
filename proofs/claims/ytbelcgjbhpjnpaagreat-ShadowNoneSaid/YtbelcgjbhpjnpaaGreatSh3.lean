/- shadow by its contracts: the table changed; Index. -/
import Derived.Test.YtbelcgjbhpjnpaaGreatSh2
namespace Go.Proofs.YtbelcgjbhpjnpaaGreat.Sh
open Go.RowKit Pk Dk Pg
attribute [local go_sem ↓] Go.wp_at_zero Go.wp_at_succ
section
variable {w w' : World} {x : X} {n : Nat} {c : C}
theorem sl_int {v : Value} {k : Nat} {l : List Value} (S : Sl w 3 v k l) : ∀ g ∈ ownS v, ∃ cs, Blk w g 3 cs := by
  intro g hg
  rcases S.2 with ⟨A, rfl, _⟩ | ⟨g', cap, rest, rfl, h0, B, _⟩
  · cases A <;> simp [ownS] at hg
  · simp [ownS] at hg
    rw [hg.2]
    exact ⟨_, B⟩
theorem At.ints_ne (h : At w x n c) {v : Value} {k : Nat} {l : List Value} (S : Sl w 3 v k l) : x.b ∉ ownS v ∧ x.mb ∉ ownS v ∧ ∀ g ∈ x.L.fp, g ∉ ownS v := by
  refine ⟨fun hg => ?_, fun hg => ?_, fun g hgL hg => ?_⟩
  · obtain ⟨cs, B⟩ := sl_int S _ hg
    exact h.hb.ne_ B (by decide) rfl
  · obtain ⟨cs, B⟩ := sl_int S _ hg
    exact h.hm.hb.ne_ B (by decide) rfl
  · obtain ⟨cs, B⟩ := sl_int S _ hg
    simp only [Loc.fp, List.mem_cons, List.not_mem_nil, or_false] at hgL
    rcases hgL with rfl | rfl | rfl | rfl
    · exact h.hd.hb.ne_ B (by decide) rfl
    · exact h.hd.hN.ne_ B (by decide) rfl
    · exact h.hd.hO.ne_ B (by decide) rfl
    · exact h.hd.hL.ne_ B (by decide) rfl
/-- a number in the table stored -/
theorem At.setT (h : At w x n c) (k : Nat) (hk : k < c.table.length) (u : Int) : ∃ g cp, x.tv = .slice (some ⟨g, 0, none⟩) c.table.length cp ∧ w.cell? ⟨g, k, none⟩ = some (.int .i64 (c.table.getD k 0)) ∧ w.frozen? ⟨g, k, none⟩ = false ∧
    At (w.setCell ⟨g, k, none⟩ (.int .i64 u)) x n { c with table := c.table.set k u } ∧ Only x.fp w (w.setCell ⟨g, k, none⟩ (.int .i64 u)) := by
  obtain ⟨g, cp, hv, S, hg, z, ow⟩ := h.ht.set_ k hk (.int .i64 u)
  obtain ⟨g', cp', hv', ck⟩ := h.tk k hk
  rw [hv] at hv'
  injection hv' with e1 e2 e3
  injection e1 with e1
  injection e1 with e1
  subst e1
  have ne := h.ints_ne h.ht
  rw [hg] at ne
  refine ⟨g, cp, hv, ck, z, ⟨h.hb.only ow ne.1, h.hd.only ow ne.2.2, h.hm.only ow ne.2.1 (by rw [← hg]; exact h.n1), ?_, h.ho.only ow (fun y hy hm => h.n4 y (by rw [hg]; exact hm) hy), h.hp.only ow (fun y hy hm => h.n5 y (by rw [hg]; exact hm) hy), h.n1, h.n2, h.n3, h.n4, h.n5, h.n6, by show (c.table.set k u).length ≤ 512; rw [List.length_set]; exact h.tl⟩, ow.mono (fun y hy _ => by
    have : y ∈ ownS x.tv := by rw [hg]; exact hy
    simp [X.fp, this])⟩
  show Sl _ _ x.tv (c.table.set k u).length (nvs' (c.table.set k u))
  rw [List.length_set, ← nvs'_set]
  exact S
/-- a number more in the table -/
theorem At.addT (h : At w x n c) (u : Int) {v' : Value} (S : Sl w' 3 v' (c.table.length + 1) (nvs' (c.table ++ [u]))) (ow : Only (ownS x.tv) w w') (fr : ∀ g ∈ ownS v', g ∈ ownS x.tv ∨ w.heap.size ≤ g) (hl : c.table.length + 1 ≤ 512) :
    w'.cell? ⟨x.b, 2, none⟩ = some x.tv ∧ w'.frozen? ⟨x.b, 2, none⟩ = false ∧ At (w'.setCell ⟨x.b, 2, none⟩ v') { x with tv := v' } n { c with table := c.table ++ [u] } ∧ Only x.fp w (w'.setCell ⟨x.b, 2, none⟩ v') ∧ ∀ g ∈ ({ x with tv := v' } : X).fp, g ∈ x.fp ∨ w.heap.size ≤ g := by
  have ne := h.ints_ne h.ht
  have B1 := h.hb.only ow ne.1
  have B2 : Blk (w'.setCell ⟨x.b, 2, none⟩ v') x.b 115 #[dp x.L.b, Fm.mp x.mb, v', x.ov, x.pv, .int .i64 c.ep, .int .i64 c.slot, .bool c.broken] := B1.set_ 2 v'
  have o2 := (Only.refl [x.b] w').setCell (p := ⟨x.b, 2, none⟩) (by simp) v'
  have D1 := h.hd.only ow ne.2.2
  have M1 := h.hm.only ow ne.2.1 h.n1
  have O1 := h.ho.only ow (fun y hy hm => h.n4 y hm hy)
  have P1 := h.hp.only ow (fun y hy hm => h.n5 y hm hy)
  have hbn : ∀ {t : TypeId} {cs : Array Value} {b : Nat}, Blk w' b t cs → t ≠ 115 → b ∉ [x.b] := by
    intro t cs b B hne hm
    simp at hm
    subst hm
    exact hne (B.inj B1).1
  have hs : ∀ {v : Value} {k : Nat} {l : List Value}, Sl w' 3 v k l → ∀ g ∈ ownS v, g ∉ [x.b] := fun S g hg => by
    obtain ⟨cs, B⟩ := sl_int S g hg
    exact hbn B (by decide)
  refine ⟨B1.cell_some rfl, B1.frozen 2 (by simp [fieldsS]), ⟨B2, D1.only o2 ?_, M1.only o2 (hbn M1.hb (by decide)) (hbn M1.hg (by decide)), ?_, O1.only o2 (hs O1), P1.only o2 (hs P1), ?_, h.n2, h.n3, ?_, ?_, h.n6, by show (c.table ++ [u]).length ≤ 512; rw [List.length_append]; exact hl⟩, ?_, ?_⟩
  · intro g hg
    simp only [Loc.fp, List.mem_cons, List.not_mem_nil, or_false] at hg
    rcases hg with rfl | rfl | rfl | rfl
    · exact hbn D1.hb (by decide)
    · exact hbn D1.hN (by decide)
    · exact hbn D1.hO (by decide)
    · exact hbn D1.hL (by decide)
  · show Sl _ _ v' (c.table ++ [u]).length _
    rw [List.length_append]
    exact S.only o2 (hs S)
  · exact fun hg => (fr x.mg hg).elim h.n1 (fun hge => by have := h.hm.hg.lt; omega)
  · exact fun g hg ho => (fr g hg).elim (fun h1 => h.n4 g h1 ho) (fun hge => by have := h.ho.lt g ho; omega)
  · exact fun g hg ho => (fr g hg).elim (fun h1 => h.n5 g h1 ho) (fun hge => by have := h.hp.lt g ho; omega)
  · exact (ow.mono (fun g hg _ => by simp [X.fp, hg])).trans (o2.mono (fun g hg _ => by simp at hg; subst hg; simp [X.fp]))
  · intro g hg
    simp only [X.fp, List.mem_cons, List.mem_append] at hg ⊢
    rcases hg with hg | hg | hg | ((hg | hg) | hg) | hg
    · exact .inl (.inl hg)
    · exact .inl (.inr (.inl hg))
    · exact .inl (.inr (.inr (.inl hg)))
    · exact .inl (.inr (.inr (.inr (.inl (.inl (.inl hg))))))
    · exact (fr g hg).imp (fun h1 => .inr (.inr (.inr (.inl (.inl (.inr h1)))))) id
    · exact .inl (.inr (.inr (.inr (.inl (.inr hg)))))
    · exact .inl (.inr (.inr (.inr (.inr hg))))
end
set_option maxHeartbeats 1000000 in
theorem index_sl {w : World} {v : Value} {l : List Int} (S : Sl w 3 v l.length (nvs' l)) (hl : l.length ≤ 1000000) (k : Int) :
    Calls Tryz.prog 87 #[v, .int .i64 k] w fun e w' => e = .returned (.int .i64 (Fm.indexF l k)) ∧ w = w' := by
  by_cases h0 : 0 < l.length
  · obtain ⟨g, cap, rest, rfl, B, hc, _⟩ := S.form h0
    exact Fm.index_any g l.length cap l rfl hl k w (fun j hj => B.cell_some (by rw [List.getElem?_toArray, List.getElem?_append_left (by simpa using hj), nvs'_get _ _ hj]))
  · have hn : l = [] := List.eq_nil_of_length_eq_zero (by omega)
    subst hn
    obtain ⟨A, c, rfl, _⟩ := S.val
    have e1 : Fm.indexF [] k = -1 := rfl
    rw [e1]
    clear S
    simp only [List.length_nil]
    go_enter Tryz.func87, Tryz.ntmps87
    go_wp2_with fail
    go_loopw [8] (fun iv wr => iv = .int .i64 0 ∧ wr = w) (fun _ _ => 0)
    case atStart => exact ⟨rfl, rfl⟩
    case round =>
      obtain ⟨rfl, rfl⟩ := hrel
      go_wp2_with fail
      go_ret
      exact ⟨by first | rfl | simp, rfl⟩
/-- the place of the first page that is not there; how many there are, if all are -/
def slotF (t : List Int) : Nat := Fm.firstF t (-1)
theorem slotF_le (t : List Int) : slotF t ≤ t.length := by unfold slotF Fm.firstF; exact List.findIdx_le_length
theorem indexF_slot (t : List Int) : Fm.indexF t (-1) = if slotF t < t.length then (slotF t : Int) else -1 := rfl
end Go.Proofs.YtbelcgjbhpjnpaaGreat.Sh
