/- shadow by its contracts: Clone, Write, Epoch. -/
import Derived.Test.YtbelcgjbhpjnpaaGreatSa
import Derived.Test.YtbelcgjbhpjnpaaGreatRb
import Derived.Defers
import Derived.Recover
set_option linter.all false
set_option linter.unusedVariables false
set_option linter.unusedSimpArgs false
set_option maxRecDepth 100000
namespace Go.Proofs.YtbelcgjbhpjnpaaGreat.Sh
open Go.RowKit Pk Dk Pg
attribute [local go_sem ↓] Go.wp_at_zero Go.wp_at_succ exec_app
set_option maxRecDepth 100000 in
set_option maxHeartbeats 2000000 in
theorem clone_sl {w : World} {v : Value} {l : List Int} (S : Sl w 3 v l.length (nvs' l)) (hl : l.length ≤ 100000) :
  Calls Tryz.prog 80 #[v] w fun e w' => ∃ v', e = .returned v' ∧ Sl w' 3 v' l.length (nvs' l) ∧ Below w.heap.size w w' ∧ ∀ g ∈ ownS v', w.heap.size ≤ g := by
 obtain ⟨A, c, rfl, hc⟩ := S.val
 have O0 := belowAlloc (Below.refl w.heap.size w) (.cells #[] 3)
 have E0 : Sl (w.alloc (.cells #[] 3)) 3 (.slice (some ⟨w.heap.size, 0, none⟩) 0 0) 0 (nvs' []) := ⟨rfl, .inl ⟨_, rfl, rfl⟩⟩
 have HN : ∀ j u, (nvs' l)[j]? = some u → ∃ a, A = some a ∧ (w.alloc (.cells #[] 3)).cell? (a.add j) = some u := by
  intro j u hu
  have hj : j < l.length := by have := (List.getElem?_eq_some_iff.1 hu).1; simpa using this
  obtain ⟨g, cap, rest, hv, B, _, _⟩ := (S.alloc (.cells #[] 3)).form (by omega)
  injection hv with e1 e2 e3
  subst e1
  exact ⟨_, rfl, cells_at B 0 _ (by intro i v hi; rw [Nat.zero_add]; exact List.getElem?_append_left (List.getElem?_eq_some_iff.1 hi).1 ▸ hi) j u hu⟩
 obtain ⟨v1, w1, ea, S1, o1, f1⟩ := append_sl (P := Tryz.prog) E0 52 52 (.int .i64 0) 8 Tryz.underlying52 info_int2 rfl A l.length c (nvs' l) (by simp) HN (nvs'_one l) (by unfold maxLen; omega) (by omega)
 rw [Nat.zero_add, ← nvs'_append, List.nil_append] at S1
 have H1 := Lib.hid (show Sl w1 3 v1 l.length (nvs' l) ∧ Below w.heap.size w w1 ∧ ∀ g ∈ ownS v1, w.heap.size ≤ g from ⟨S1, O0.trans (o1.below_of (by simp) (fun x hx => by simp [ownS] at hx)), fun g hg => (f1 g hg).elim (fun h => by simp [ownS] at h) (fun h => by simp at h; omega)⟩)
 have EA := Lib.hid ea
 have HS := Lib.hid S
 clear ea S1 o1 f1 HN E0 O0
 cases A with
 | none =>
  have HE := Lib.run_eql_slice_nil (P := Tryz.prog) w 52 3 none 0 0 0 0 Tryz.underlying52
  have h0 : l.length = 0 := by
   rcases S.2 with ⟨A', e, h0⟩ | ⟨g, cap, rest, e, _⟩
   ·exact h0
   ·cases e
  have hc0 : c = 0 := by
   rcases S.2 with ⟨A', e, _⟩ | ⟨g, cap, rest, e, _⟩
   ·injection e
   ·cases e
  subst hc0
  have hl0 : l = [] := List.eq_nil_of_length_eq_zero h0
  subst hl0
  clear S
  go_enter Tryz.func80, Tryz.ntmps80
  go_wp2_with fail
  go_ret
  exact ⟨.slice none 0 0, by first | rfl | simp, Sl.nil _ _, Below.refl _ _, by simp [ownS]⟩
 | some a =>
  have HE := Lib.run_eql_slice_nil (P := Tryz.prog) w 52 3 (some a) l.length c 0 0 Tryz.underlying52
  clear S
  go_enter Tryz.func80, Tryz.ntmps80
  go_wp2_with fail
  rw [EA.out]
  go_wp2_with fail
  go_ret
  exact ⟨v1, by first | rfl | simp, H1.out⟩
theorem epoch_any {w : World} {x : X} {n : Nat} {c : C} (h : At w x n c) :
  Calls Tryz.prog 27 #[sp x.b] w fun e w' => e = .returned (.int .i64 c.ep) ∧ w = w' := by
 have f5 := h.f5
 clear h
 unfold sp
 go_enter Tryz.func27, Tryz.ntmps27
 go_wp2_with fail
 go_ret
 exact ⟨by first | rfl | simp, rfl⟩
def C.writeF (c : C) (n : Nat) (l : Int) (p : List UInt8) : C × Int :=
 if c.broken = true then (c, 13)
 else if 232 < p.length then (c, 4)
 else if c.atF l ≠ 0 then (c, c.atF l)
 else if Fm.freshF c.m (c.table.getD l.toNat 0) = true then ({ c with d := (pwriteF c.d n (c.table.getD l.toNat 0) (c.ep + 1) 2 p).1 }, (pwriteF c.d n (c.table.getD l.toNat 0) (c.ep + 1) 2 p).2)
 else if (c.freshF n p).2.2 ≠ 0 then ((c.freshF n p).1, (c.freshF n p).2.2)
 else ({ (c.freshF n p).1 with m := (Fm.leaveF (c.freshF n p).1.m (c.table.getD l.toNat 0)).1, table := c.table.set l.toNat (c.freshF n p).2.1 }, 0)
set_option maxRecDepth 100000 in
set_option maxHeartbeats 2000000 in
theorem swrite_any {w : World} {x : X} {n : Nat} {c : C} (h : At w x n c) (l : Int) (s : ByteArray) (hs : s.size ≤ 9223372036854775807) (hep : 0 ≤ c.ep ∧ c.ep ≤ 1099511627776) (hc : c.d.calls ≤ 3999999999999999990) (hr : c.d.armed ≤ 9223372036854775807) (ht : ∀ k, c.table.getD k 0 ≤ 1024) :
  Calls Tryz.prog 32 #[sp x.b, .int .i64 l, .string s] w fun e w' => e = .returned (.int .i64 (c.writeF n l s.data.toList).2) ∧ At w' x n (c.writeF n l s.data.toList).1 ∧ Only x.fp w w' := by
 have KW := works_any h
 have hl : s.data.toList.length = s.size := by simp
 obtain ⟨R, hR⟩ : ∃ R, c.writeF n l s.data.toList = R := ⟨_, rfl⟩
 rw [hR]
 unfold C.writeF at hR
 rw [hl] at hR
 have HH := Lib.hid h
 by_cases h1 : c.broken = true
 ·rw [if_pos h1] at hR
  subst hR
  rw [show c.worksF = 13 from by unfold C.worksF; rw [if_pos h1]] at KW
  have KW := Lib.hid KW
  clear h h1
  unfold sp at *
  go_enter Tryz.func32, Tryz.ntmps32
  go_wp2_with fail
  refine KW.out.mono ?_
  rintro e w1 ⟨rfl, rfl⟩
  go_wp2_with fail
  go_ret
  exact ⟨by first | rfl | simp, HH.out, Only.refl _ _⟩
 rw [if_neg h1] at hR
 rw [show c.worksF = 0 from by unfold C.worksF; rw [if_neg h1]] at KW
 have KW := Lib.hid KW
 by_cases h2 : 232 < s.size
 ·rw [if_pos h2] at hR
  subst hR
  have h2I : (232 : Int) < (s.size : Int) := by omega
  clear h h1 h2
  unfold sp at *
  go_enter Tryz.func32, Tryz.ntmps32
  go_wp2_with fail
  refine KW.out.mono ?_
  rintro e w1 ⟨rfl, rfl⟩
  go_wp2_with fail
  go_ret
  exact ⟨by first | rfl | simp, HH.out, Only.refl _ _⟩
 rw [if_neg h2] at hR
 have h2I : ¬ (232 : Int) < (s.size : Int) := by omega
 have KA := at_any h l
 by_cases h3 : c.atF l = 0
 ·rw [if_neg (by simpa using h3)] at hR
  obtain ⟨_, h5, h6, h7⟩ := atF_ok h3
  rw [h3] at KA
  have KA := Lib.hid KA
  obtain ⟨k, rfl⟩ := Int.eq_ofNat_of_zero_le h5
  have hk : k < c.table.length := by omega
  rw [show ((k : Nat) : Int).toNat = k from by omega] at hR h7
  obtain ⟨g, cp, hv, ck⟩ := h.tk k hk
  have f1 := h.f1
  have f2 := h.f2
  rw [hv] at f2
  have hkI : (k : Int) < (c.table.length : Int) := by omega
  have HR := Lib.hid hR
  have hid : c.table.getD k 0 ≤ 9223372036854775807 := by have := ht k; omega
  have KF := Lib.hid (fun (m : Nat) => Fm.fresh_any (h.drewN m).hm (c.table.getD k 0))
  have KP := Lib.hid (fun (m : Nat) => put_any (h.drewN m) (c.table.getD k 0) 2 s hid hep hc hr)
  have KN := Lib.hid (fun (m : Nat) => fresh_any (h.drewN m) s hep hc hr)
  have HD := Lib.hid (fun (m : Nat) => h.drewN m)
  obtain ⟨pid, hpid⟩ : ∃ pid, c.table.getD k 0 = pid := ⟨_, rfl⟩
  rw [hpid] at ck KF KP hR HR
  have g1 := h.f1
  by_cases hf : Fm.freshF c.m pid = true
  ·rw [if_pos hf] at hR
   subst hR
   rw [hf] at KF
   clear h h1 h2 h3 hv hf HR hpid hid
   generalize c.table.length = tn at *
   unfold Fm.mp at *
   unfold sp at *
   go_enter Tryz.func32, Tryz.ntmps32
   go_wp2_with fail
   refine KW.out.mono ?_
   rintro e w1 ⟨rfl, rfl⟩
   go_wp2_with fail
   refine KA.out.mono ?_
   rintro e w1 ⟨rfl, rfl⟩
   go_wp2_with fail
   go_quiet ((go_at_call 99; exact quietS (KF.out _)))
   go_wp2_with fail
   refine (KP.out nq).mono ?_
   rintro e w2 ⟨rfl, A2, o2⟩
   have A2 := Lib.hid A2
   have o2 := Lib.hid (((Only.refl x.fp w).drewN nq).trans (o2.mono (fun g hg _ => L_fp x g hg)))
   go_wp2_with fail
   go_ret
   exact ⟨by first | rfl | simp, A2.out, o2.out⟩
  ·have hf2 : Fm.freshF c.m pid = false := by cases hb : Fm.freshF c.m pid with | true => exact absurd hb hf | false => rfl
   rw [if_neg hf] at hR
   rw [hf2] at KF
   have FT := freshF_table c n s.data.toList
   obtain ⟨c1, hc1⟩ : ∃ c1, c.freshF n s.data.toList = c1 := ⟨_, rfl⟩
   rw [hc1] at KN hR FT
   obtain ⟨C1, id1, e1⟩ := c1
   dsimp only at KN hR FT
   by_cases he : e1 = 0
   ·subst he
    rw [if_neg (by simp)] at hR
    subst hR
    have HT := Lib.hid FT.1
    have hpid2 := Lib.hid (show C1.table.getD k 0 = pid by rw [HT.out]; exact hpid)
    have hk2 := Lib.hid (show k < C1.table.length by rw [HT.out]; exact hk)
    have HX := Lib.hid (show ∀ w1, At w1 x n C1 → ∀ cp', x.tv = .slice (some ⟨g, 0, none⟩) c.table.length cp' → (w1.cell? ⟨x.b, 1, none⟩ = some (Fm.mp x.mb) ∧ w1.cell? ⟨x.b, 2, none⟩ = some (.slice (some ⟨g, 0, none⟩) c.table.length cp') ∧ w1.cell? ⟨g, k, none⟩ = some (.int .i64 pid)) from fun w1 A1 cp' e => by
     obtain ⟨g2, cp2, e2, ck2⟩ := A1.tk k hk2.out
     rw [e] at e2
     injection e2 with e3 e4 e5
     injection e3 with e3
     injection e3 with e3
     subst e3
     rw [hpid2.out] at ck2
     exact ⟨A1.f1, by rw [← e]; exact A1.f2, ck2⟩)
    have HS := Lib.hid (show ∀ w2, At w2 x n { C1 with m := (Fm.leaveF C1.m pid).1 } → ∀ cp', x.tv = .slice (some ⟨g, 0, none⟩) c.table.length cp' → (w2.cell? ⟨g, k, none⟩ = some (.int .i64 pid) ∧ w2.frozen? ⟨g, k, none⟩ = false ∧ At (w2.setCell ⟨g, k, none⟩ (.int .i64 id1)) x n { C1 with m := (Fm.leaveF C1.m pid).1, table := c.table.set k id1 } ∧ Only x.fp w2 (w2.setCell ⟨g, k, none⟩ (.int .i64 id1))) from fun w2 A2 cp' e => by
     obtain ⟨g2, cp2, e2, ck2, z2, A3, o3⟩ := A2.setT k hk2.out id1
     rw [e] at e2
     injection e2 with e3 e4 e5
     injection e3 with e3
     injection e3 with e3
     subst e3
     rw [show ({ C1 with m := (Fm.leaveF C1.m pid).1 } : C).table.getD k 0 = pid from hpid2.out] at ck2
     rw [show ({ C1 with m := (Fm.leaveF C1.m pid).1 } : C).table = c.table from HT.out] at A3
     exact ⟨ck2, z2, A3, o3⟩)
    have HV := Lib.hid hv
    have KL := Lib.hid (fun (W : World) (hW : At W x n C1) => Fm.leave_any hW.hm pid)
    have HM := Lib.hid (fun (W W' : World) (hW : At W x n C1) (mm : Fm.MapAt W' x.mb x.mg (Fm.leaveF C1.m pid).1) (ow : Only [x.mg] W W') => hW.map mm ow)
    clear h h1 h2 h3 hv hf hf2 HR hpid hid FT hc1
    generalize c.table.length = tn at *
    generalize (Fm.leaveF C1.m pid).2 = le at *
    unfold Fm.mp at *
    unfold sp at *
    go_enter Tryz.func32, Tryz.ntmps32
    go_wp2_with fail
    refine KW.out.mono ?_
    rintro e w1 ⟨rfl, rfl⟩
    go_wp2_with fail
    refine KA.out.mono ?_
    rintro e w1 ⟨rfl, rfl⟩
    go_wp2_with fail
    go_quiet ((go_at_call 99; exact quietS (KF.out _)))
    go_wp2_with fail
    refine (KN.out nq).mono ?_
    rintro e w1 ⟨rfl, A1, o1⟩
    have A1 := Lib.hid A1
    have o1 := Lib.hid (((Only.refl x.fp w).drewN nq).trans o1)
    clear f1 f2 ck
    have A1d := Lib.hid A1.out.drew
    have HK := Lib.hid (HX.out _ A1d.out cp HV.out)
    go_wp2_with fail
    refine wp_region_held_drew (S := fun W' => W'.cell? ⟨x.b, 1, none⟩ = some (.pointer (some ⟨x.mb, 0, none⟩)) ∧ W'.cell? ⟨x.b, 2, none⟩ = some (.slice (some ⟨g, 0, none⟩) tn cp) ∧ W'.cell? ⟨g, k, none⟩ = some (.int .i64 pid)) (by kernel_rfl) (HK.out) (fun hHeld => ?_)
    refine zpl [(0,56),(1,57),(2,58),(3,59),(4,60),(5,61),(6,62),(7,63),(8,64),(9,65),(10,66)] ?_
    iterate 11 (refine ztp (v := ?_) rfl (by kernel_rfl) (fun _ _ _ h => h) (by assumption) ?_ ?_; rotate_left; (·intro w hS; (try dsimp only at hS); go_simp; try with_reducible rfl); try simp only [Act.put, pa, pb, pc])
    refine zpe ?_
    refine wpAnyH_ready (rs := [11]) (by kernel_rfl) (by simp) ?_
    refine AllReadyH.cons (o := ⟨some 67, _, _, _, _, _⟩) rfl (fun K hK => ?_) AllReadyH.nil
    go_simp
    go_at_call 101
    refine (KL.out _ A1d.out).mono ?_
    rintro e w2 ⟨rfl, mm, ow⟩
    have A2 := Lib.hid (HM.out _ _ A1d.out mm ow)
    have HS2 := Lib.hid (HS.out w2 A2.out cp HV.out)
    have q1 := A2.out.f1
    have q2 := A2.out.f2
    rw [HV.out] at q2
    unfold Fm.mp at q1
    have OX := Lib.hid (((o1.out.drew).trans (ow.mono (fun g hg _ => mg_fp x g hg))).trans HS2.out.2.2.2)
    have z2 := HS2.out.2.1
    have ck2 := HS2.out.1
    clear mm ow
    go_simp
    refine hK.out _ _ (⟨q1, q2, ck2⟩) (fun hHeld => ?_)
    try simp only [Act.put, pa, pb, pc]
    refine wpAnyH_done (by kernel_rfl) ?_ _
    go_wp2_with fail
    go_ret
    exact ⟨by first | rfl | simp, HS2.out.2.2.1, OX.out⟩
   ·rw [if_pos he] at hR
    subst hR
    have hq : (e1 != 0) = true := by rw [bne_iff_ne]; exact he
    have hq2 : (e1 == 0) = false := by rw [beq_eq_false_iff_ne]; exact he
    clear h h1 h2 h3 hv hf hf2 HR hpid hid FT hc1
    generalize c.table.length = tn at *
    unfold Fm.mp at *
    unfold sp at *
    go_enter Tryz.func32, Tryz.ntmps32
    go_wp2_with fail
    refine KW.out.mono ?_
    rintro e w1 ⟨rfl, rfl⟩
    go_wp2_with fail
    refine KA.out.mono ?_
    rintro e w1 ⟨rfl, rfl⟩
    go_wp2_with fail
    go_quiet ((go_at_call 99; exact quietS (KF.out _)))
    go_wp2_with fail
    refine (KN.out nq).mono ?_
    rintro e w1 ⟨rfl, A1, o1⟩
    have A1 := Lib.hid A1
    have o1 := Lib.hid (((Only.refl x.fp w).drewN nq).trans o1)
    go_wp2_with fail
    go_ret
    exact ⟨by first | rfl | simp, A1.out, o1.out⟩
 ·rw [if_pos h3] at hR
  subst hR
  have KA := Lib.hid KA
  have hq : (c.atF l != 0) = true := by rw [bne_iff_ne]; exact h3
  have hq2 : (c.atF l == 0) = false := by rw [beq_eq_false_iff_ne]; exact h3
  generalize c.atF l = ea at *
  clear h h1 h2 h3
  unfold sp at *
  go_enter Tryz.func32, Tryz.ntmps32
  go_wp2_with fail
  refine KW.out.mono ?_
  rintro e w1 ⟨rfl, rfl⟩
  go_wp2_with fail
  refine KA.out.mono ?_
  rintro e w1 ⟨rfl, rfl⟩
  go_wp2_with fail
  go_ret
  exact ⟨by first | rfl | simp, HH.out, Only.refl _ _⟩
end Go.Proofs.YtbelcgjbhpjnpaaGreat.Sh

/- shadow by its contracts: must; lay's closures. -/
namespace Go.Proofs.YtbelcgjbhpjnpaaGreat.Sh
open Go.RowKit Pk Dk Pg
attribute [local go_sem ↓] Go.wp_at_zero Go.wp_at_succ
def chainE (e : Int) : List PanicEntry := [{ v := .iface 41 (.int .i64 e), recovered := false }]
theorem must_ok (w : World) : Calls Tryz.prog 167 #[.int .i64 0] w fun e w' => e = .returned (.tuple #[]) ∧ w = w' := by
 go_enter Tryz.func167, Tryz.ntmps167
 go_wp2_with fail
 go_end0
 exact ⟨rfl, rfl⟩
theorem must_bad (e0 : Int) (he : e0 ≠ 0) (w : World) : Calls Tryz.prog 167 #[.int .i64 e0] w fun e w' => e = .panicked (chainE e0) ∧ w = w' := by
 have hq : (e0 != 0) = true := by rw [bne_iff_ne]; exact he
 have hq2 : (e0 == 0) = false := by rw [beq_eq_false_iff_ne]; exact he
 unfold chainE
 go_enter Tryz.func167, Tryz.ntmps167
 go_wp2_with fail
 exact ⟨rfl, rfl, rfl⟩
theorem assert_none (w : World) : (Instr.typeAssert .nilIface 20 41 true).run Tryz.prog w = .ok (.tuple #[.int .i64 0, .bool false]) w := by kernel_rfl
theorem assert_some (w : World) (e : Int) : (Instr.typeAssert (.iface 41 (.int .i64 e)) 20 41 true).run Tryz.prog w = .ok (.tuple #[.int .i64 e, .bool true]) w := by kernel_rfl
theorem catch_idle (p : Addr) (w : World) :
  CallsD Tryz.prog 164 #[.pointer (some p)] .returning w fun e u' w' => e = .returned (.tuple #[]) ∧ u' = .returning ∧ w' = w := by
 have ha := assert_none w
 refine callsD_of_wpS Tryz.func164 rfl fun c₀ cs hu => ?_
 apply wpS_seq
 apply wpS_region
 simp [wpOpsS, go_sem, recoverD, hu, Tryz.ntmps164, Exit.thenS, ha]
 apply wpS_seq
 apply wpS_region
 simp [wpOpsS, go_sem, Exit.thenS]
 refine wpS_cond (t := false) (by simp [Act.eval, Array.replicate]) ?_
 simp only [Bool.false_eq_true, if_false]
 refine wpS_of_wp (wp_skip ?_)
 cases c₀
 simp_all [bodyPostS, results, Tryz.results164]
theorem catch_panicking (p : Addr) (x e0 : Int) (older : List PanicEntry) (w : World) (hc : w.cell? p = some (.int .i64 x)) (hz : w.frozen? p = false) :
  CallsD Tryz.prog 164 #[.pointer (some p)] (.panicking ({ v := .iface 41 (.int .i64 e0), recovered := false } :: older)) w fun e u' w' =>
   e = .returned (.tuple #[]) ∧ u' = .panicking ({ v := .iface 41 (.int .i64 e0), recovered := true } :: older) ∧ w' = w.setCell p (.int .i64 e0) := by
 have ha := assert_some w e0
 refine callsD_of_wpS Tryz.func164 rfl fun c₀ cs hu => ?_
 apply wpS_seq
 apply wpS_region
 simp [wpOpsS, go_sem, recoverD, hu, Tryz.ntmps164, Exit.thenS, ha]
 apply wpS_seq
 apply wpS_region
 simp [wpOpsS, go_sem, Exit.thenS]
 refine wpS_cond (t := true) (by simp [Act.eval, Array.replicate]) ?_
 simp only [if_true]
 apply wpS_region
 simp [wpOpsS, go_sem, hc, hz, bodyPostS, results, Tryz.results164]
/-- the closure that lays a part of the table -/
theorem lay2_any {w : World} {x : X} {n : Nat} {c : C} (h : At w x n c) {q : Nat} (hq : w.cell? ⟨q, 0, none⟩ = some (sp x.b)) (i : Nat) (hi : 116 * i < c.table.length) (hb : ∀ y ∈ c.table, y ≤ 1023) :
  Calls Tryz.prog 165 #[.int .i64 (i : Nat), .pointer (some ⟨q, 0, none⟩)] w fun e w' => e = .returned (.string ⟨(Rt.partF (Rt.segF c.table i)).toArray⟩) ∧ Below w.heap.size w w' := by
 have f2 := h.f2
 obtain ⟨A, cc, hv, hcc⟩ := h.ht.val
 have tl := h.tl
 have KP := Rt.putpart_any (w := w) A c.table.length cc c.table ⟨rfl, fun k y hy => by
  have hk : k < c.table.length := (List.getElem?_eq_some_iff.1 hy).1
  obtain ⟨g, cp, hv2, ck⟩ := h.tk k hk
  rw [hv] at hv2
  injection hv2 with e1 e2 e3
  refine ⟨_, e1, ?_⟩
  rw [show (⟨g, 0, none⟩ : Addr).add k = ⟨g, k, none⟩ from by unfold Addr.add; split <;> simp_all, ck]
  congr 2
  simp [List.getD, hy]⟩ (by omega) hcc i hi
 have KP := Lib.hid (KP.mono fun e w' hh => (show e = .returned (.tuple #[.string ⟨(Rt.partF (Rt.segF c.table i)).toArray⟩, .int .i64 0]) ∧ Below w.heap.size w w' from by
  obtain ⟨h1 | h1, h2⟩ := hh
  ·obtain ⟨⟨y, hy, hlt⟩, _⟩ := h1
   have := hb y (List.mem_of_mem_drop (List.mem_of_mem_take hy))
   omega
  ·exact ⟨h1.2, h2⟩))
 rw [hv] at f2
 clear h hv
 unfold sp at *
 go_enter Tryz.func165, Tryz.ntmps165
 go_wp2_with fail
 refine KP.out.mono ?_
 rintro e w1 ⟨rfl, hb1⟩
 have H1 := Lib.hid hb1
 clear hb1
 go_wp2_with fail
 go_ret
 exact ⟨by first | rfl | simp, H1.out⟩
end Go.Proofs.YtbelcgjbhpjnpaaGreat.Sh
