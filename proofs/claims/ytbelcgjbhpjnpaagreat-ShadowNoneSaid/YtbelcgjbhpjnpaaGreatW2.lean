/- shadow by its contracts: must; lay's closures. -/
import Derived.Test.YtbelcgjbhpjnpaaGreatW
import Derived.Test.YtbelcgjbhpjnpaaGreatRb
import Derived.Defers
import Derived.Recover
namespace Go.Proofs.YtbelcgjbhpjnpaaGreat.Sh
open Go.RowKit Pk Dk Pg
attribute [local go_sem ↓] Go.wp_at_zero Go.wp_at_succ
def chainE (e : Int) : List PanicEntry := [{ v := .iface 41 (.int .i64 e), recovered := false }]
theorem must_ok (w : World) : Calls Tryz.prog 167 #[.int .i64 0] w fun e w' => e = .returned (.tuple #[]) ∧ w = w' := by
  go_enter Tryz.func167, Tryz.ntmps167
  go_wp2_with fail
  go_end0
  exact ⟨rfl, rfl⟩
theorem must_bad (e0 : Int) (he : e0 ≠ 0) (w : World) : Calls Tryz.prog 167 #[.int .i64 e0] w fun e w' => e = .panicked (chainE e0) ∧ w = w' := by
  have hq : (e0 != 0) = true := by rw [bne_iff_ne]; exact he
  have hq2 : (e0 == 0) = false := by rw [beq_eq_false_iff_ne]; exact he
  unfold chainE
  go_enter Tryz.func167, Tryz.ntmps167
  go_wp2_with fail
  exact ⟨rfl, rfl, rfl⟩
theorem assert_none (w : World) : (Instr.typeAssert .nilIface 20 41 true).run Tryz.prog w = .ok (.tuple #[.int .i64 0, .bool false]) w := by kernel_rfl
theorem assert_some (w : World) (e : Int) : (Instr.typeAssert (.iface 41 (.int .i64 e)) 20 41 true).run Tryz.prog w = .ok (.tuple #[.int .i64 e, .bool true]) w := by kernel_rfl
theorem catch_idle (p : Addr) (w : World) :
    CallsD Tryz.prog 164 #[.pointer (some p)] .returning w fun e u' w' => e = .returned (.tuple #[]) ∧ u' = .returning ∧ w' = w := by
  have ha := assert_none w
  refine callsD_of_wpS Tryz.func164 rfl fun c₀ cs hu => ?_
  apply wpS_seq
  apply wpS_region
  simp [wpOpsS, go_sem, recoverD, hu, Tryz.ntmps164, Exit.thenS, ha]
  apply wpS_seq
  apply wpS_region
  simp [wpOpsS, go_sem, Exit.thenS]
  refine wpS_cond (t := false) (by simp [Act.eval, Array.replicate]) ?_
  simp only [Bool.false_eq_true, if_false]
  refine wpS_of_wp (wp_skip ?_)
  cases c₀
  simp_all [bodyPostS, results, Tryz.results164]
theorem catch_panicking (p : Addr) (x e0 : Int) (older : List PanicEntry) (w : World) (hc : w.cell? p = some (.int .i64 x)) (hz : w.frozen? p = false) :
    CallsD Tryz.prog 164 #[.pointer (some p)] (.panicking ({ v := .iface 41 (.int .i64 e0), recovered := false } :: older)) w fun e u' w' =>
      e = .returned (.tuple #[]) ∧ u' = .panicking ({ v := .iface 41 (.int .i64 e0), recovered := true } :: older) ∧ w' = w.setCell p (.int .i64 e0) := by
  have ha := assert_some w e0
  refine callsD_of_wpS Tryz.func164 rfl fun c₀ cs hu => ?_
  apply wpS_seq
  apply wpS_region
  simp [wpOpsS, go_sem, recoverD, hu, Tryz.ntmps164, Exit.thenS, ha]
  apply wpS_seq
  apply wpS_region
  simp [wpOpsS, go_sem, Exit.thenS]
  refine wpS_cond (t := true) (by simp [Act.eval, Array.replicate]) ?_
  simp only [if_true]
  apply wpS_region
  simp [wpOpsS, go_sem, hc, hz, bodyPostS, results, Tryz.results164]
/-- the closure that lays a part of the table -/
theorem lay2_any {w : World} {x : X} {n : Nat} {c : C} (h : At w x n c) {q : Nat} (hq : w.cell? ⟨q, 0, none⟩ = some (sp x.b)) (i : Nat) (hi : 116 * i < c.table.length) (hb : ∀ y ∈ c.table, y ≤ 1023) :
    Calls Tryz.prog 165 #[.int .i64 (i : Nat), .pointer (some ⟨q, 0, none⟩)] w fun e w' => e = .returned (.string ⟨(Rt.partF (Rt.segF c.table i)).toArray⟩) ∧ Below w.heap.size w w' := by
  have f2 := h.f2
  obtain ⟨A, cc, hv, hcc⟩ := h.ht.val
  have tl := h.tl
  have KP := Rt.putpart_any (w := w) A c.table.length cc c.table ⟨rfl, fun k y hy => by
    have hk : k < c.table.length := (List.getElem?_eq_some_iff.1 hy).1
    obtain ⟨g, cp, hv2, ck⟩ := h.tk k hk
    rw [hv] at hv2
    injection hv2 with e1 e2 e3
    refine ⟨_, e1, ?_⟩
    rw [show (⟨g, 0, none⟩ : Addr).add k = ⟨g, k, none⟩ from by unfold Addr.add; split <;> simp_all, ck]
    congr 2
    simp [List.getD, hy]⟩ (by omega) hcc i hi
  have KP := Lib.hid (KP.mono fun e w' hh => (show e = .returned (.tuple #[.string ⟨(Rt.partF (Rt.segF c.table i)).toArray⟩, .int .i64 0]) ∧ Below w.heap.size w w' from by
    obtain ⟨h1 | h1, h2⟩ := hh
    · obtain ⟨⟨y, hy, hlt⟩, _⟩ := h1
      have := hb y (List.mem_of_mem_drop (List.mem_of_mem_take hy))
      omega
    · exact ⟨h1.2, h2⟩))
  rw [hv] at f2
  clear h hv
  unfold sp at *
  go_enter Tryz.func165, Tryz.ntmps165
  go_wp2_with fail
  refine KP.out.mono ?_
  rintro e w1 ⟨rfl, hb1⟩
  have H1 := Lib.hid hb1
  clear hb1
  go_wp2_with fail
  go_ret
  exact ⟨by first | rfl | simp, H1.out⟩
end Go.Proofs.YtbelcgjbhpjnpaaGreat.Sh
