/- shadow by its contracts: lay. -/
import Derived.Test.YtbelcgjbhpjnpaaGreatWa
set_option linter.all false
set_option linter.unusedVariables false
set_option linter.unusedSimpArgs false
namespace Go.Proofs.YtbelcgjbhpjnpaaGreat.Sh
open Go.RowKit Pk Dk Pg
attribute [local go_sem ↓] Go.wp_at_zero Go.wp_at_succ
/-- the disk behind so many parts of the table -/
def C.layP (c : C) (n : Nat) (parts : List Int) : Nat → D × Int
 | 0 => (c.d, 0)
 | i + 1 => if (c.layP n parts i).2 ≠ 0 then c.layP n parts i else pwriteF (c.layP n parts i).1 n (parts.getD i 0) (c.ep + 1) 1 (Rt.partF (Rt.segF c.table i))
def C.layF (c : C) (n : Nat) (parts : List Nat) : D × Int :=
 if (c.layP n (Rt.natI parts) parts.length).2 ≠ 0 then c.layP n (Rt.natI parts) parts.length
 else if (c.layP n (Rt.natI parts) parts.length).1.syncF.2 ≠ 0 then (c.layP n (Rt.natI parts) parts.length).1.syncF
 else if ((c.layP n (Rt.natI parts) parts.length).1.syncF.1.writeF n (1 - c.slot) (Rt.rootL (c.ep + 1) c.table.length parts)).2 ≠ 0 then (c.layP n (Rt.natI parts) parts.length).1.syncF.1.writeF n (1 - c.slot) (Rt.rootL (c.ep + 1) c.table.length parts)
 else ((c.layP n (Rt.natI parts) parts.length).1.syncF.1.writeF n (1 - c.slot) (Rt.rootL (c.ep + 1) c.table.length parts)).1.syncF
theorem layP_bd (c : C) (n : Nat) (parts : List Int) (h : c.d.armed ≤ 9223372036854775807) : ∀ i, (c.layP n parts i).1.calls ≤ c.d.calls + 4 * i ∧ (c.layP n parts i).1.armed ≤ 9223372036854775807
 | 0 => ⟨by show c.d.calls ≤ _; omega, h⟩
 | i + 1 => by
  have ih := layP_bd c n parts h i
  unfold C.layP
  split
  ·exact ⟨by omega, ih.2⟩
  ·have := pwrite_bd (c.layP n parts i).1 n (parts.getD i 0) (c.ep + 1) 1 (Rt.partF (Rt.segF c.table i)) ih.2
   exact ⟨by omega, this.2⟩
theorem layP_succ (c : C) (n : Nat) (parts : List Int) (i : Nat) : c.layP n parts (i + 1) = if (c.layP n parts i).2 ≠ 0 then c.layP n parts i else pwriteF (c.layP n parts i).1 n (parts.getD i 0) (c.ep + 1) 1 (Rt.partF (Rt.segF c.table i)) := rfl
theorem layP_stop (c : C) (n : Nat) (parts : List Int) (i : Nat) (h : (c.layP n parts i).2 ≠ 0) : ∀ k, c.layP n parts (i + k) = c.layP n parts i
 | 0 => rfl
 | k + 1 => by
  have ih := layP_stop c n parts i h k
  rw [show i + (k + 1) = (i + k) + 1 by omega, layP_succ, ih, if_pos h]
/-- in the midst of lay -/
structure LayW (w0 w : World) (x : X) (n : Nat) (c : C) (d : D) (v : Value) (parts : List Int) : Prop where
 at_ : At w x n { c with d := d }
 on : Only x.L.fp w0 w
 bx : Blk w w0.heap.size 24 #[sp x.b]
 bo : Blk w (w0.heap.size + 1) 41 #[.int .i64 0]
 ps : Sl w 3 v parts.length (nvs' parts)
 nf : ∀ g ∈ ownS v, g ∉ x.L.fp
 lt2 : ∀ g ∈ x.fp, g < w0.heap.size
section
variable {w0 w w' : World} {x : X} {n : Nat} {c : C} {d : D} {v : Value} {parts : List Int}
theorem LayW.lt (h : LayW w0 w x n c d v parts) : ∀ g ∈ x.L.fp, g < w0.heap.size := fun g hg => h.lt2 g (L_fp x g hg)
theorem LayW.below (h : LayW w0 w x n c d v parts) (hb : Below w.heap.size w w') : LayW w0 w' x n c d v parts :=
 ⟨h.at_.below hb, h.on.trans (.of_below hb), h.bx.below hb h.bx.lt, h.bo.below hb h.bo.lt, h.ps.below hb, h.nf, h.lt2⟩
theorem LayW.step {d' : D} (h : LayW w0 w x n c d v parts) (A : At w' x n { c with d := d' }) (o : Only x.L.fp w w') : LayW w0 w' x n c d' v parts :=
 ⟨A, h.on.trans o, h.bx.only o (fun hg => by have := h.lt _ hg; omega), h.bo.only o (fun hg => by have := h.lt _ hg; omega), h.ps.only o (fun g hg => h.nf g hg), h.nf, h.lt2⟩
theorem LayW.out (h : LayW w0 w x n c d v parts) (u : Value) : At (w.setCell ⟨w0.heap.size + 1, 0, none⟩ u) x n { c with d := d } ∧ Only x.L.fp w0 (w.setCell ⟨w0.heap.size + 1, 0, none⟩ u) ∧ (w.setCell ⟨w0.heap.size + 1, 0, none⟩ u).cell? ⟨w0.heap.size + 1, 0, none⟩ = some u :=
 ⟨h.at_.only ((Only.refl [w0.heap.size + 1] w).setCell (p := ⟨w0.heap.size + 1, 0, none⟩) (by simp) u) (fun g hg hm => by have := h.lt2 g hg; simp at hm; omega), h.on.setCell (fun hlt => by dsimp only at hlt; omega) u, (h.bo.set_ 0 u).cell_some rfl⟩
theorem LayW.part (h : LayW w0 w x n c d v parts) (i : Nat) (hi : i < parts.length) : ∃ g cp, v = .slice (some ⟨g, 0, none⟩) parts.length cp ∧ w.cell? ⟨g, i, none⟩ = some (.int .i64 (parts.getD i 0)) := by
 obtain ⟨g, cp, rest, hv, B, _, _⟩ := h.ps.form (by omega)
 refine ⟨g, cp, hv, B.cell_some ?_⟩
 rw [List.getElem?_toArray, List.getElem?_append_left (by simpa using hi), nvs'_get _ _ hi]
end
theorem wsync_bd (d : D) (h : d.armed ≤ 9223372036854775807) : d.syncF.1.calls ≤ d.calls + 1 ∧ d.syncF.1.armed ≤ 9223372036854775807 := by
 have := wcount_bd d h
 unfold D.syncF
 split
 ·exact ⟨by show d.calls ≤ _; omega, h⟩
 ·split
  ·exact ⟨by show d.countF.1.calls ≤ _; omega, this.2⟩
  ·exact ⟨by omega, this.2⟩
theorem rput_of {w0 w : World} {x : X} {n : Nat} {c : C} {d : D} {A : Option Addr} {m cc : Nat} {parts : List Nat} (h : LayW w0 w x n c d (.slice A m cc) (Rt.natI parts)) (hpl : (Rt.natI parts).length = m) (hmc : m ≤ cc) (hr : Rt.rightR (c.ep + 1) (c.table.length : Nat) (Rt.natI parts)) :
  Calls Tryz.prog 97 #[Rt.rootV (c.ep + 1) (c.table.length : Nat) A m cc] w fun e w' => e = .returned (.tuple #[.string ⟨(Rt.rootL (c.ep + 1) c.table.length parts).toArray⟩, .int .i64 0]) ∧ Below w.heap.size w w' := by
 refine Rt.rput_yes (c.ep + 1) c.table.length A m cc parts ⟨hpl, fun k y hy => ?_⟩ hmc hr
 have hk : k < (Rt.natI parts).length := (List.getElem?_eq_some_iff.1 hy).1
 obtain ⟨g, cp, hv, ck⟩ := h.part k hk
 rw [hpl] at hv
 injection hv with e1 e2 e3
 refine ⟨_, e1, ?_⟩
 rw [show (⟨g, 0, none⟩ : Addr).add k = ⟨g, k, none⟩ from by unfold Addr.add; split <;> simp_all, ck]
 congr 2
 simp [List.getD, hy]
theorem leaves_same {P : Program} {fn : Func} {t t' : Array Value} {R : Ending → World → Prop} (h : ∀ w, (results fn t').run P w = (results fn t).run P w) : ∀ (ds : List Deferred) (u : FrameMode) (w : World), Leaves P fn t' R ds u w → Leaves P fn t R ds u w
 | [], .returning, w, ⟨v, h1, h2⟩ => ⟨v, by rw [← h w]; exact h1, h2⟩
 | [], .panicking _, _, h2 => h2
 | [], .run, _, h2 => h2
 | d :: ds, u, w, ⟨h1, fv, cap, f, args, h2, h3, h4⟩ => ⟨h1, fv, cap, f, args, h2, h3, h4.mono fun e u' w' hh => by
   cases e with
   | returned v => exact leaves_same h ds (settle u') w' hh
   | panicked c => exact leaves_same h ds (raised u' c) w' hh
   | outgrown => exact hh⟩
theorem lay_put (d : Nat) (hd : d ≠ 4) {R : Ending → World → Prop} {c : List PanicEntry} {a : Act} {v : Value} {w : World} (h : bodyPostD Tryz.prog Tryz.f105 R (.panic c) (a.put (some d) v) w) : bodyPostD Tryz.prog Tryz.f105 R (.panic c) a w := by
 refine leaves_same (fun w => ?_) _ _ _ h
 rw [results_cell_one rfl, results_cell_one rfl]
 simp only [Act.put]
 have : (a.tmps.setIfInBounds d v).getD 4 undef = a.tmps.getD 4 undef := by
  rw [Array.getD_eq_getD_getElem?, Array.getD_eq_getD_getElem?, Array.getElem?_setIfInBounds_ne hd]
 rw [this]
set_option maxRecDepth 100000 in
set_option maxHeartbeats 8000000 in
theorem lay_any {w : World} {x : X} {n : Nat} {c : C} (h : At w x n c) {A : Option Addr} {m cc : Nat} (parts : List Nat) (S : Sl w 3 (.slice A m cc) m (nvs' (Rt.natI parts))) (hmc : m ≤ cc) (nf : ∀ g ∈ ownS (.slice A m cc), g ∉ x.fp)
  (hr : Rt.rightR (c.ep + 1) (c.table.length : Nat) (Rt.natI parts)) (hb : ∀ y ∈ c.table, y ≤ 1023) (hsl : c.slot = 0 ∨ c.slot = 1) (hc : c.d.calls ≤ 3999999999999999900) (ha : c.d.armed ≤ 9223372036854775807) :
  Calls Tryz.prog 105 #[sp x.b, .slice A m cc] w fun e w' => e = .returned (.int .i64 (c.layF n parts).2) ∧ At w' x n { c with d := (c.layF n parts).1 } ∧ Only x.L.fp w w' := by
 have hmf : ∀ (fn : Fn) (first cap : Array Value) (w : World), (Instr.makeFunc fn first cap).run Tryz.prog w = .ok (.func fn first cap) w := fun _ _ _ _ => rfl
 have hpl : (Rt.natI parts).length = m := by have := S.1; simpa using this
 have hpl2 : parts.length = m := by rw [← hpl]; simp [Rt.natI]
 have hm5 : m ≤ 5 := by have := Rt.rightR_len hr; omega
 have tl := h.tl
 have hep : 1 ≤ c.ep + 1 ∧ c.ep + 1 ≤ 1099511627776 := ⟨hr.1, hr.2.1⟩
 have hneed : (m : Int) = Rt.needF (c.table.length : Nat) := by have := hr.2.2.2.2.1; rw [hpl] at this; exact this
 obtain ⟨R, hR⟩ : ∃ R, c.layF n parts = R := ⟨_, rfl⟩
 rw [hR]
 unfold C.layF at hR
 rw [hpl2] at hR
 have HR := Lib.hid hR
 have U0 := belowAlloc (Below.refl w.heap.size w) (.cells #[sp x.b] 24)
 have U1 := bstep U0 (belowAlloc (Below.refl (w.alloc (.cells #[sp x.b] 24)).heap.size _) (.cells #[.int .i64 0] 41))
 have L0 := Lib.hid (show LayW w ((w.alloc (.cells #[sp x.b] 24)).alloc (.cells #[.int .i64 0] 41)) x n c c.d (.slice A m cc) (Rt.natI parts) from
  ⟨h.below U1, .of_below U1, (Blk.new w _ _).alloc _, by have := Blk.new (w.alloc (.cells #[sp x.b] 24)) 41 #[.int .i64 0]; rw [World.size_alloc] at this; exact this, by rw [hpl]; exact S.below U1, fun g hg hF => nf g hg (L_fp x g hF), fun g hg => h.lt g hg⟩)
 have hlb := Lib.hid (fun i => layP_bd c n (Rt.natI parts) ha i)
 clear hR U0 U1 S nf h
 unfold sp at *
 go_enter_defers Tryz.func105, Tryz.ntmps105
 go_wp2_with fail
 go_loopw [14] (fun iv wr => ∃ i : Nat, i ≤ m ∧ iv = .int .i64 i ∧ Hid ((c.layP n (Rt.natI parts) i).2 = 0) ∧ Hid (LayW w wr x n c (c.layP n (Rt.natI parts) i).1 (.slice A m cc) (Rt.natI parts))) (fun iv _ => m - (intOf iv).toNat)
 case atStart => exact ⟨0, Nat.zero_le _, rfl, Lib.hid rfl, L0⟩
 case round =>
  obtain ⟨i, hi, rfl, HZ, HL⟩ := hrel
  have bb := hlb.out i
  by_cases h' : i < m
  ·obtain ⟨g, cp, hv, ck⟩ := HL.out.part i (by omega)
   rw [hpl] at hv
   injection hv with e1 e2 e3
   subst e1 e3
   clear e2
   have hiI : (i : Int) < (m : Int) := by omega
   have hseg : 116 * i < c.table.length := by unfold Rt.needF at hneed; omega
   have hsc := layP_succ c n (Rt.natI parts) i
   rw [if_neg (by rw [HZ.out]; simp)] at hsc
   have hid : (Rt.natI parts).getD i 0 ≤ 9223372036854775807 := by
    have hm : i < (Rt.natI parts).length := by omega
    have := (hr.2.2.2.2.2 i _ (List.getElem?_eq_getElem hm)).2.1
    simp only [List.getD, List.getElem?_eq_getElem hm, Option.getD_some]
    omega
   have K2 := Lib.hid (fun (W : World) (hW : LayW w W x n c (c.layP n (Rt.natI parts) i).1 (.slice (some ⟨g, 0, none⟩) m cc) (Rt.natI parts)) => lay2_any hW.at_ (hW.bx.cell_some (i := 0) rfl) i hseg hb)
   have KP := Lib.hid (fun (W : World) (hW : At W x n { c with d := (c.layP n (Rt.natI parts) i).1 }) => put_any hW ((Rt.natI parts).getD i 0) 1 ⟨(Rt.partF (Rt.segF c.table i)).toArray⟩ hid (by show 0 ≤ c.ep ∧ c.ep ≤ 1099511627776; omega) (by show (c.layP n (Rt.natI parts) i).1.calls ≤ 3999999999999999990; omega) bb.2)
   rw [show ({ c with d := (c.layP n (Rt.natI parts) i).1 } : C).table = c.table from rfl] at K2
   rw [show ({ c with d := (c.layP n (Rt.natI parts) i).1 } : C).d = (c.layP n (Rt.natI parts) i).1 from rfl, show ({ c with d := (c.layP n (Rt.natI parts) i).1 } : C).ep = c.ep from rfl, show (⟨(Rt.partF (Rt.segF c.table i)).toArray⟩ : ByteArray).data.toList = Rt.partF (Rt.segF c.table i) from rfl, ← hsc] at KP
   generalize (⟨(Rt.partF (Rt.segF c.table i)).toArray⟩ : ByteArray) = PB at *
   obtain ⟨er, her⟩ : ∃ er, (c.layP n (Rt.natI parts) (i + 1)).2 = er := ⟨_, rfl⟩
   rw [her] at KP
   have HS := Lib.hid her
   clear hsc her bb
   unfold sp at *
   have hdc : (0 : Int) ≤ (i : Int) := by omega
   generalize (Rt.natI parts).getD i 0 = pid at *
   by_cases he : er = 0
   ·subst he
    go_wp2_with fail
    have LD := Lib.hid (HL.out.below ((Below.refl _ _).drew))
    have bD := LD.out.bx.cell_some (i := 0) rfl
    refine wp_region_held_drew (S := fun W' => W'.cell? ⟨w.heap.size, 0, none⟩ = some (.pointer (some ⟨x.b, 0, none⟩))) (by kernel_rfl) (bD) (fun hHeld => ?_)
    refine tkf (i := 0) (oi := ⟨some 19, _, _, _, _, _⟩) (v := ?_) rfl (by kernel_rfl) (fun _ _ _ h => lay_put 19 (by decide) h) (by assumption) ?_ ?_
    rotate_left
    ·(intro w hS; (try dsimp only at hS); go_simp; try with_reducible rfl)
    try simp only [Act.put, pa, pb, pc]
    refine tkf (i := 1) (oi := ⟨some 20, _, _, _, _, _⟩) (v := ?_) rfl (by kernel_rfl) (fun _ _ _ h => lay_put 20 (by decide) h) (by assumption) ?_ ?_
    rotate_left
    ·(intro w hS; (try dsimp only at hS); go_simp; try with_reducible rfl)
    try simp only [Act.put, pa, pb, pc]
    refine tkf (i := 2) (oi := ⟨some 21, _, _, _, _, _⟩) (v := ?_) rfl (by kernel_rfl) (fun _ _ _ h => lay_put 21 (by decide) h) (by assumption) ?_ ?_
    rotate_left
    ·(intro w hS; (try dsimp only at hS); go_simp; try with_reducible rfl)
    try simp only [Act.put, pa, pb, pc]
    refine tkf (i := 3) (oi := ⟨some 22, _, _, _, _, _⟩) (v := ?_) rfl (by kernel_rfl) (fun _ _ _ h => lay_put 22 (by decide) h) (by assumption) ?_ ?_
    rotate_left
    ·(intro w hS; (try dsimp only at hS); go_simp; try with_reducible rfl)
    try simp only [Act.put, pa, pb, pc]
    refine wpAnyH_ready (rs := [4]) (by kernel_rfl) (by simp) ?_
    refine AllReadyH.cons (o := ⟨some 23, _, _, _, _, _⟩) rfl (fun K hK => ?_) AllReadyH.nil
    go_simp
    go_at_call 165
    refine (K2.out _ LD.out).mono ?_
    rintro e w2 ⟨rfl, hb2⟩
    have L2 := Lib.hid (LD.out.below hb2)
    have b2 := L2.out.bx.cell_some (i := 0) rfl
    clear hb2
    go_simp
    refine hK.out _ _ (b2) (fun hHeld => ?_)
    try simp only [Act.put, pa, pb, pc]
    refine wpAnyH_ready (rs := [5]) (by kernel_rfl) (by simp) ?_
    refine AllReadyH.cons (o := ⟨some 24, _, _, _, _, _⟩) rfl (fun K hK => ?_) AllReadyH.nil
    go_simp
    go_at_call 100
    refine (KP.out _ L2.out.at_).mono ?_
    rintro e w3 ⟨rfl, A3, o3⟩
    have L3 := Lib.hid (L2.out.step A3 o3)
    have b3 := L3.out.bx.cell_some (i := 0) rfl
    clear A3 o3
    go_simp
    refine hK.out _ _ (b3) (fun hHeld => ?_)
    try simp only [Act.put, pa, pb, pc]
    refine wpAnyH_ready (rs := [6]) (by kernel_rfl) (by simp) ?_
    refine AllReadyH.cons (o := ⟨some 25, _, _, _, _, _⟩) rfl (fun K hK => ?_) AllReadyH.nil
    go_simp
    go_at_call 167
    refine (must_ok _).mono ?_
    rintro e w4 ⟨rfl, rfl⟩
    go_simp
    refine hK.out _ _ (b3) (fun hHeld => ?_)
    try simp only [Act.put, pa, pb, pc]
    refine wpAnyH_done (by kernel_rfl) ?_ _
    go_wp2_with fail
    go_roundw
    case rel => exact ⟨i + 1, by omega, by go_num, HS, L3⟩
    case measure => simp [intOf]; omega
   ·go_wp2_with fail
    have LD := Lib.hid (HL.out.below ((Below.refl _ _).drew))
    have bD := LD.out.bx.cell_some (i := 0) rfl
    refine wp_region_held_drew (S := fun W' => W'.cell? ⟨w.heap.size, 0, none⟩ = some (.pointer (some ⟨x.b, 0, none⟩))) (by kernel_rfl) (bD) (fun hHeld => ?_)
    refine tkf (i := 0) (oi := ⟨some 19, _, _, _, _, _⟩) (v := ?_) rfl (by kernel_rfl) (fun _ _ _ h => lay_put 19 (by decide) h) (by assumption) ?_ ?_
    rotate_left
    ·(intro w hS; (try dsimp only at hS); go_simp; try with_reducible rfl)
    try simp only [Act.put, pa, pb, pc]
    refine tkf (i := 1) (oi := ⟨some 20, _, _, _, _, _⟩) (v := ?_) rfl (by kernel_rfl) (fun _ _ _ h => lay_put 20 (by decide) h) (by assumption) ?_ ?_
    rotate_left
    ·(intro w hS; (try dsimp only at hS); go_simp; try with_reducible rfl)
    try simp only [Act.put, pa, pb, pc]
    refine tkf (i := 2) (oi := ⟨some 21, _, _, _, _, _⟩) (v := ?_) rfl (by kernel_rfl) (fun _ _ _ h => lay_put 21 (by decide) h) (by assumption) ?_ ?_
    rotate_left
    ·(intro w hS; (try dsimp only at hS); go_simp; try with_reducible rfl)
    try simp only [Act.put, pa, pb, pc]
    refine tkf (i := 3) (oi := ⟨some 22, _, _, _, _, _⟩) (v := ?_) rfl (by kernel_rfl) (fun _ _ _ h => lay_put 22 (by decide) h) (by assumption) ?_ ?_
    rotate_left
    ·(intro w hS; (try dsimp only at hS); go_simp; try with_reducible rfl)
    try simp only [Act.put, pa, pb, pc]
    refine wpAnyH_ready (rs := [4]) (by kernel_rfl) (by simp) ?_
    refine AllReadyH.cons (o := ⟨some 23, _, _, _, _, _⟩) rfl (fun K hK => ?_) AllReadyH.nil
    go_simp
    go_at_call 165
    refine (K2.out _ LD.out).mono ?_
    rintro e w2 ⟨rfl, hb2⟩
    have L2 := Lib.hid (LD.out.below hb2)
    have b2 := L2.out.bx.cell_some (i := 0) rfl
    clear hb2
    go_simp
    refine hK.out _ _ (b2) (fun hHeld => ?_)
    try simp only [Act.put, pa, pb, pc]
    refine wpAnyH_ready (rs := [5]) (by kernel_rfl) (by simp) ?_
    refine AllReadyH.cons (o := ⟨some 24, _, _, _, _, _⟩) rfl (fun K hK => ?_) AllReadyH.nil
    go_simp
    go_at_call 100
    refine (KP.out _ L2.out.at_).mono ?_
    rintro e w3 ⟨rfl, A3, o3⟩
    have L3 := Lib.hid (L2.out.step A3 o3)
    have b3 := L3.out.bx.cell_some (i := 0) rfl
    clear A3 o3
    go_simp
    refine hK.out _ _ (b3) (fun hHeld => ?_)
    try simp only [Act.put, pa, pb, pc]
    refine wpAnyH_ready (rs := [6]) (by kernel_rfl) (by simp) ?_
    refine AllReadyH.cons (o := ⟨some 25, _, _, _, _, _⟩) rfl (fun K hK => ?_) AllReadyH.nil
    go_simp
    go_at_call 167
    refine (must_bad er he _).mono ?_
    rintro e w4 ⟨rfl, rfl⟩
    dsimp only
    have LZ := L3
    refine leaves_cons (f := 164) (args := #[.pointer (some ⟨w.heap.size + 1, 0, none⟩)]) (by simp) (by simp [go_sem]) ?_
    refine (catch_panicking ⟨w.heap.size + 1, 0, none⟩ 0 er [] _ (LZ.out.bo.cell_some (i := 0) rfl) (LZ.out.bo.frozen 0 (by simp))).mono ?_
    rintro e u' w'' ⟨rfl, rfl, rfl⟩
    obtain ⟨y1, y2, y3⟩ := LZ.out.out (.int .i64 er)
    refine ⟨.int .i64 er, ?_, ?_⟩
    ·rw [results_cell_one rfl]
     clear y1 y2
     go_simp
    ·have HR2 := HR.out
     rw [show m = (i + 1) + (m - (i + 1)) by omega, layP_stop c n _ (i + 1) (by rw [HS.out]; exact he), if_pos (by rw [HS.out]; exact he)] at HR2
     subst HR2
     exact ⟨by rw [HS.out], y1, y2⟩
  ·obtain rfl : i = m := by omega
   have HR2 := HR.out
   rw [if_neg (by rw [HZ.out]; simp)] at HR2
   obtain ⟨TA, tc, htv, _⟩ := HL.out.at_.ht.val
   have htv : x.tv = .slice TA c.table.length tc := htv
   obtain ⟨d1, hd1⟩ : ∃ d1, (c.layP n (Rt.natI parts) i).1 = d1 := ⟨_, rfl⟩
   rw [hd1] at HL HR2 bb
   have KS1 := Lib.hid (fun (W : World) (hW : LayW w W x n c d1 (.slice A i cc) (Rt.natI parts)) => sync_any hW.at_.hd (by show d1.calls ≤ _; omega) bb.2)
   have KI := Lib.hid (fun (W : World) (d : D) (hW : LayW w W x n c d (.slice A i cc) (Rt.natI parts)) => rput_of hW hpl hmc hr)
   have e1 : IntKind.i64.wrap (c.ep + 1) = c.ep + 1 := IntWalk.i64_in _ (by omega)
   have e2 : IntKind.i64.wrap (1 - c.slot) = 1 - c.slot := IntWalk.i64_in _ (by omega)
   have b2 := wsync_bd d1 bb.2
   rw [show ({ c with d := d1 } : C).d = d1 from rfl] at KS1
   have hcs : d1.calls ≤ 3999999999999999930 := by omega
   clear hd1 hlb bb HZ
   generalize d1.syncF = s1 at *
   obtain ⟨sd, se⟩ := s1
   dsimp only at KS1 HR2 b2
   have f0 := HL.out.bx.cell_some (i := 0) rfl
   have g0 := HL.out.at_.f0
   unfold sp dp at *
   by_cases hse : se = 0
   ·subst hse
    rw [if_neg (by simp)] at HR2
    have KW := Lib.hid (fun (W : World) (hW : LayW w W x n c sd (.slice A i cc) (Rt.natI parts)) => write_any hW.at_.hd (1 - c.slot) ⟨(Rt.rootL (c.ep + 1) c.table.length parts).toArray⟩ (by show sd.calls ≤ _; omega) b2.2)
    rw [show ({ c with d := sd } : C).d = sd from rfl, show (⟨(Rt.rootL (c.ep + 1) c.table.length parts).toArray⟩ : ByteArray).data.toList = Rt.rootL (c.ep + 1) c.table.length parts from rfl] at KW
    have b3 := wwrite_bd sd n (1 - c.slot) (Rt.rootL (c.ep + 1) c.table.length parts) b2.2
    generalize sd.writeF n (1 - c.slot) (Rt.rootL (c.ep + 1) c.table.length parts) = s2 at *
    generalize (⟨(Rt.rootL (c.ep + 1) c.table.length parts).toArray⟩ : ByteArray) = RB at *
    obtain ⟨wd, we⟩ := s2
    dsimp only at KW HR2 b3
    by_cases hwe : we = 0
    ·subst hwe
     rw [if_neg (by simp)] at HR2
     have KS2 := Lib.hid (fun (W : World) (hW : LayW w W x n c wd (.slice A i cc) (Rt.natI parts)) => sync_any hW.at_.hd (by show wd.calls ≤ _; omega) b3.2)
     rw [show ({ c with d := wd } : C).d = wd from rfl] at KS2
     generalize wd.syncF = s3 at *
     obtain ⟨zd, ze⟩ := s3
     dsimp only at KS2 HR2
     by_cases hze : ze = 0
     ·subst hze
      subst HR2
      go_wp2_with fail
      refine (KS1.out _ HL.out).mono ?_
      rintro e v1 ⟨rfl, D1, o1⟩
      have L1 := Lib.hid (HL.out.step (HL.out.at_.disk D1 o1) o1)
      clear D1 o1 f0 g0
      go_wp2_with fail
      refine (must_ok _).mono ?_
      rintro e vm ⟨rfl, rfl⟩
      have LV := Lib.hid (L1.out.below ((Below.refl _ _).drew))
      have q0 := LV.out.bx.cell_some (i := 0) rfl
      have q5 := LV.out.at_.f5
      have q2 := LV.out.at_.f2
      rw [htv] at q2
      go_wp2_with fail
      refine wp_region_held_drew (S := fun W' => W'.cell? ⟨w.heap.size, 0, none⟩ = some (.pointer (some ⟨x.b, 0, none⟩)) ∧ W'.cell? ⟨x.b, 5, none⟩ = some (.int .i64 c.ep) ∧ W'.cell? ⟨x.b, 2, none⟩ = some (.slice TA c.table.length tc)) (by kernel_rfl) (⟨q0, q5, q2⟩) (fun hHeld => ?_)
      refine tkf (i := 0) (oi := ⟨some 34, _, _, _, _, _⟩) (v := ?_) rfl (by kernel_rfl) (fun _ _ _ h => lay_put 34 (by decide) h) (by assumption) ?_ ?_
      rotate_left
      ·(intro w hS; (try dsimp only at hS); go_simp; try with_reducible rfl)
      try simp only [Act.put, pa, pb, pc]
      refine tkf (i := 1) (oi := ⟨some 35, _, _, _, _, _⟩) (v := ?_) rfl (by kernel_rfl) (fun _ _ _ h => lay_put 35 (by decide) h) (by assumption) ?_ ?_
      rotate_left
      ·(intro w hS; (try dsimp only at hS); go_simp; try with_reducible rfl)
      try simp only [Act.put, pa, pb, pc]
      refine tkf (i := 2) (oi := ⟨some 36, _, _, _, _, _⟩) (v := ?_) rfl (by kernel_rfl) (fun _ _ _ h => lay_put 36 (by decide) h) (by assumption) ?_ ?_
      rotate_left
      ·(intro w hS; (try dsimp only at hS); go_simp; try with_reducible rfl)
      try simp only [Act.put, pa, pb, pc]
      refine tkf (i := 3) (oi := ⟨some 37, _, _, _, _, _⟩) (v := ?_) rfl (by kernel_rfl) (fun _ _ _ h => lay_put 37 (by decide) h) (by assumption) ?_ ?_
      rotate_left
      ·(intro w hS; (try dsimp only at hS); go_simp; try with_reducible rfl)
      try simp only [Act.put, pa, pb, pc]
      refine tkf (i := 4) (oi := ⟨some 38, _, _, _, _, _⟩) (v := ?_) rfl (by kernel_rfl) (fun _ _ _ h => lay_put 38 (by decide) h) (by assumption) ?_ ?_
      rotate_left
      ·(intro w hS; (try dsimp only at hS); go_simp; try with_reducible rfl)
      try simp only [Act.put, pa, pb, pc]
      refine tkf (i := 5) (oi := ⟨some 39, _, _, _, _, _⟩) (v := ?_) rfl (by kernel_rfl) (fun _ _ _ h => lay_put 39 (by decide) h) (by assumption) ?_ ?_
      rotate_left
      ·(intro w hS; (try dsimp only at hS); go_simp; try with_reducible rfl)
      try simp only [Act.put, pa, pb, pc]
      refine tkf (i := 6) (oi := ⟨some 40, _, _, _, _, _⟩) (v := ?_) rfl (by kernel_rfl) (fun _ _ _ h => lay_put 40 (by decide) h) (by assumption) ?_ ?_
      rotate_left
      ·(intro w hS; (try dsimp only at hS); go_simp; try with_reducible rfl)
      try simp only [Act.put, pa, pb, pc]
      refine tkf (i := 7) (oi := ⟨some 41, _, _, _, _, _⟩) (v := ?_) rfl (by kernel_rfl) (fun _ _ _ h => lay_put 41 (by decide) h) (by assumption) ?_ ?_
      rotate_left
      ·(intro w hS; (try dsimp only at hS); go_simp; try with_reducible rfl)
      try simp only [Act.put, pa, pb, pc]
      refine tkf (i := 8) (oi := ⟨some 42, _, _, _, _, _⟩) (v := ?_) rfl (by kernel_rfl) (fun _ _ _ h => lay_put 42 (by decide) h) (by assumption) ?_ ?_
      rotate_left
      ·(intro w hS; (try dsimp only at hS); go_simp; try with_reducible rfl)
      try simp only [Act.put, pa, pb, pc]
      refine tkf (i := 9) (oi := ⟨some 43, _, _, _, _, _⟩) (v := ?_) rfl (by kernel_rfl) (fun _ _ _ h => lay_put 43 (by decide) h) (by assumption) ?_ ?_
      rotate_left
      ·(intro w hS; (try dsimp only at hS); go_simp; try with_reducible rfl)
      try simp only [Act.put, pa, pb, pc]
      refine tkf (i := 10) (oi := ⟨some 44, _, _, _, _, _⟩) (v := ?_) rfl (by kernel_rfl) (fun _ _ _ h => lay_put 44 (by decide) h) (by assumption) ?_ ?_
      rotate_left
      ·(intro w hS; (try dsimp only at hS); go_simp; try with_reducible rfl)
      try simp only [Act.put, pa, pb, pc]
      refine tkf (i := 11) (oi := ⟨some 45, _, _, _, _, _⟩) (v := ?_) rfl (by kernel_rfl) (fun _ _ _ h => lay_put 45 (by decide) h) (by assumption) ?_ ?_
      rotate_left
      ·(intro w hS; (try dsimp only at hS); go_simp; try with_reducible rfl)
      try simp only [Act.put, pa, pb, pc]
      refine wpAnyH_ready (rs := [12]) (by kernel_rfl) (by simp) ?_
      refine AllReadyH.cons (o := ⟨some 46, _, _, _, _, _⟩) rfl (fun K hK => ?_) AllReadyH.nil
      go_simp
      go_at_call 97
      refine (KI.out _ _ LV.out).mono ?_
      rintro e v2 ⟨rfl, hb2⟩
      have L2 := Lib.hid (LV.out.below hb2)
      have q0 := L2.out.bx.cell_some (i := 0) rfl
      have q5 := L2.out.at_.f5
      have q2 := L2.out.at_.f2
      rw [htv] at q2
      clear hb2
      go_simp
      refine hK.out _ _ (⟨q0, q5, q2⟩) (fun hHeld => ?_)
      try simp only [Act.put, pa, pb, pc]
      refine tkf (i := 13) (oi := ⟨some 33, _, _, _, _, _⟩) (v := ?_) rfl (by kernel_rfl) (fun _ _ _ h => lay_put 33 (by decide) h) (by assumption) ?_ ?_
      rotate_left
      ·(intro w hS; (try dsimp only at hS); go_simp; try with_reducible rfl)
      try simp only [Act.put, pa, pb, pc]
      refine tkf (i := 14) (oi := ⟨some 47, _, _, _, _, _⟩) (v := ?_) rfl (by kernel_rfl) (fun _ _ _ h => lay_put 47 (by decide) h) (by assumption) ?_ ?_
      rotate_left
      ·(intro w hS; (try dsimp only at hS); go_simp; try with_reducible rfl)
      try simp only [Act.put, pa, pb, pc]
      refine tkf (i := 15) (oi := ⟨some 48, _, _, _, _, _⟩) (v := ?_) rfl (by kernel_rfl) (fun _ _ _ h => lay_put 48 (by decide) h) (by assumption) ?_ ?_
      rotate_left
      ·(intro w hS; (try dsimp only at hS); go_simp; try with_reducible rfl)
      try simp only [Act.put, pa, pb, pc]
      refine tkf (i := 16) (oi := ⟨some 8, _, _, _, _, _⟩) (v := ?_) rfl (by kernel_rfl) (fun _ _ _ h => lay_put 8 (by decide) h) (by assumption) ?_ ?_
      rotate_left
      ·(intro w hS; (try dsimp only at hS); go_simp; try with_reducible rfl)
      try simp only [Act.put, pa, pb, pc]
      refine tkf (i := 17) (oi := ⟨some 9, _, _, _, _, _⟩) (v := ?_) rfl (by kernel_rfl) (fun _ _ _ h => lay_put 9 (by decide) h) (by assumption) ?_ ?_
      rotate_left
      ·(intro w hS; (try dsimp only at hS); go_simp; try with_reducible rfl)
      try simp only [Act.put, pa, pb, pc]
      refine wpAnyH_done (by kernel_rfl) ?_ _
      go_wp2_with fail
      have LU := Lib.hid (L2.out.below ((Below.refl _ _).drew))
      have r0 := LU.out.bx.cell_some (i := 0) rfl
      have r1 := LU.out.at_.f0
      have r6 := LU.out.at_.f6
      clear q0 q5 q2
      unfold dp at r1
      refine wp_region_held_drew (S := fun W' => W'.cell? ⟨w.heap.size, 0, none⟩ = some (.pointer (some ⟨x.b, 0, none⟩)) ∧ W'.cell? ⟨x.b, 0, none⟩ = some (.pointer (some ⟨x.L.b, 0, none⟩)) ∧ W'.cell? ⟨x.b, 6, none⟩ = some (.int .i64 c.slot)) (by kernel_rfl) (⟨r0, r1, r6⟩) (fun hHeld => ?_)
      refine tkf (i := 0) (oi := ⟨some 49, _, _, _, _, _⟩) (v := ?_) rfl (by kernel_rfl) (fun _ _ _ h => lay_put 49 (by decide) h) (by assumption) ?_ ?_
      rotate_left
      ·(intro w hS; (try dsimp only at hS); go_simp; try with_reducible rfl)
      try simp only [Act.put, pa, pb, pc]
      refine tkf (i := 1) (oi := ⟨some 50, _, _, _, _, _⟩) (v := ?_) rfl (by kernel_rfl) (fun _ _ _ h => lay_put 50 (by decide) h) (by assumption) ?_ ?_
      rotate_left
      ·(intro w hS; (try dsimp only at hS); go_simp; try with_reducible rfl)
      try simp only [Act.put, pa, pb, pc]
      refine tkf (i := 2) (oi := ⟨some 51, _, _, _, _, _⟩) (v := ?_) rfl (by kernel_rfl) (fun _ _ _ h => lay_put 51 (by decide) h) (by assumption) ?_ ?_
      rotate_left
      ·(intro w hS; (try dsimp only at hS); go_simp; try with_reducible rfl)
      try simp only [Act.put, pa, pb, pc]
      refine tkf (i := 3) (oi := ⟨some 52, _, _, _, _, _⟩) (v := ?_) rfl (by kernel_rfl) (fun _ _ _ h => lay_put 52 (by decide) h) (by assumption) ?_ ?_
      rotate_left
      ·(intro w hS; (try dsimp only at hS); go_simp; try with_reducible rfl)
      try simp only [Act.put, pa, pb, pc]
      refine tkf (i := 4) (oi := ⟨some 53, _, _, _, _, _⟩) (v := ?_) rfl (by kernel_rfl) (fun _ _ _ h => lay_put 53 (by decide) h) (by assumption) ?_ ?_
      rotate_left
      ·(intro w hS; (try dsimp only at hS); go_simp; try with_reducible rfl)
      try simp only [Act.put, pa, pb, pc]
      refine tkf (i := 5) (oi := ⟨some 54, _, _, _, _, _⟩) (v := ?_) rfl (by kernel_rfl) (fun _ _ _ h => lay_put 54 (by decide) h) (by assumption) ?_ ?_
      rotate_left
      ·(intro w hS; (try dsimp only at hS); go_simp; try with_reducible rfl)
      try simp only [Act.put, pa, pb, pc]
      refine tkf (i := 6) (oi := ⟨some 55, _, _, _, _, _⟩) (v := ?_) rfl (by kernel_rfl) (fun _ _ _ h => lay_put 55 (by decide) h) (by assumption) ?_ ?_
      rotate_left
      ·(intro w hS; (try dsimp only at hS); go_simp; try with_reducible rfl)
      try simp only [Act.put, pa, pb, pc]
      refine tkf (i := 7) (oi := ⟨some 56, _, _, _, _, _⟩) (v := ?_) rfl (by kernel_rfl) (fun _ _ _ h => lay_put 56 (by decide) h) (by assumption) ?_ ?_
      rotate_left
      ·(intro w hS; (try dsimp only at hS); go_simp; try with_reducible rfl)
      try simp only [Act.put, pa, pb, pc]
      refine tkf (i := 8) (oi := ⟨some 57, _, _, _, _, _⟩) (v := ?_) rfl (by kernel_rfl) (fun _ _ _ h => lay_put 57 (by decide) h) (by assumption) ?_ ?_
      rotate_left
      ·(intro w hS; (try dsimp only at hS); go_simp; try with_reducible rfl)
      try simp only [Act.put, pa, pb, pc]
      refine tkf (i := 9) (oi := ⟨some 58, _, _, _, _, _⟩) (v := ?_) rfl (by kernel_rfl) (fun _ _ _ h => lay_put 58 (by decide) h) (by assumption) ?_ ?_
      rotate_left
      ·(intro w hS; (try dsimp only at hS); go_simp; try with_reducible rfl)
      try simp only [Act.put, pa, pb, pc]
      refine wpAnyH_ready (rs := [10]) (by kernel_rfl) (by simp) ?_
      refine AllReadyH.cons (o := ⟨some 59, _, _, _, _, _⟩) rfl (fun K hK => ?_) AllReadyH.nil
      go_simp
      go_at_call 37
      refine (KW.out _ LU.out).mono ?_
      rintro e v3 ⟨rfl, D3, o3⟩
      have L3 := Lib.hid (LU.out.step (LU.out.at_.disk D3 o3) o3)
      have r0 := L3.out.bx.cell_some (i := 0) rfl
      have r1 := L3.out.at_.f0
      have r6 := L3.out.at_.f6
      unfold dp at r1
      clear D3 o3
      go_simp
      refine hK.out _ _ (⟨r0, r1, r6⟩) (fun hHeld => ?_)
      try simp only [Act.put, pa, pb, pc]
      refine wpAnyH_ready (rs := [11]) (by kernel_rfl) (by simp) ?_
      refine AllReadyH.cons (o := ⟨some 60, _, _, _, _, _⟩) rfl (fun K hK => ?_) AllReadyH.nil
      go_simp
      go_at_call 167
      refine (must_ok _).mono ?_
      rintro e v4 ⟨rfl, rfl⟩
      go_simp
      refine hK.out _ _ (⟨r0, r1, r6⟩) (fun hHeld => ?_)
      try simp only [Act.put, pa, pb, pc]
      refine wpAnyH_done (by kernel_rfl) ?_ _
      have f3 : v3.cell? ⟨w.heap.size, 0, none⟩ = some (.pointer (some ⟨x.b, 0, none⟩)) := r0
      have g3 : v3.cell? ⟨x.b, 0, none⟩ = some (.pointer (some ⟨x.L.b, 0, none⟩)) := r1
      clear r0 r1 r6
      go_wp2_with fail
      refine (KS2.out _ L3.out).mono ?_
      rintro e v5 ⟨rfl, D5, o5⟩
      have L5 := Lib.hid (L3.out.step (L3.out.at_.disk D5 o5) o5)
      clear D5 o5
      go_wp2_with fail
      refine (must_ok _).mono ?_
      rintro e vm ⟨rfl, rfl⟩
      have o1 := L5.out.bo.cell_some (i := 0) rfl
      have o2 := L5.out.bo.frozen 0 (by simp)
      go_wp2_with fail
      refine leaves_cons (f := 164) (args := #[.pointer (some ⟨w.heap.size + 1, 0, none⟩)]) (by simp) (by simp [go_sem]) ?_
      refine (catch_idle ⟨w.heap.size + 1, 0, none⟩ _).mono ?_
      rintro e u' w'' ⟨rfl, rfl, rfl⟩
      obtain ⟨y1, y2, y3⟩ := L5.out.out (.int .i64 0)
      refine ⟨.int .i64 0, ?_, ?_⟩
      ·rw [results_cell_one rfl]
       clear y1 y2
       go_simp
      ·exact ⟨rfl, y1, y2⟩
     ·subst HR2
      go_wp2_with fail
      refine (KS1.out _ HL.out).mono ?_
      rintro e v1 ⟨rfl, D1, o1⟩
      have L1 := Lib.hid (HL.out.step (HL.out.at_.disk D1 o1) o1)
      clear D1 o1 f0 g0
      go_wp2_with fail
      refine (must_ok _).mono ?_
      rintro e vm ⟨rfl, rfl⟩
      have LV := Lib.hid (L1.out.below ((Below.refl _ _).drew))
      have q0 := LV.out.bx.cell_some (i := 0) rfl
      have q5 := LV.out.at_.f5
      have q2 := LV.out.at_.f2
      rw [htv] at q2
      go_wp2_with fail
      refine wp_region_held_drew (S := fun W' => W'.cell? ⟨w.heap.size, 0, none⟩ = some (.pointer (some ⟨x.b, 0, none⟩)) ∧ W'.cell? ⟨x.b, 5, none⟩ = some (.int .i64 c.ep) ∧ W'.cell? ⟨x.b, 2, none⟩ = some (.slice TA c.table.length tc)) (by kernel_rfl) (⟨q0, q5, q2⟩) (fun hHeld => ?_)
      refine tkf (i := 0) (oi := ⟨some 34, _, _, _, _, _⟩) (v := ?_) rfl (by kernel_rfl) (fun _ _ _ h => lay_put 34 (by decide) h) (by assumption) ?_ ?_
      rotate_left
      ·(intro w hS; (try dsimp only at hS); go_simp; try with_reducible rfl)
      try simp only [Act.put, pa, pb, pc]
      refine tkf (i := 1) (oi := ⟨some 35, _, _, _, _, _⟩) (v := ?_) rfl (by kernel_rfl) (fun _ _ _ h => lay_put 35 (by decide) h) (by assumption) ?_ ?_
      rotate_left
      ·(intro w hS; (try dsimp only at hS); go_simp; try with_reducible rfl)
      try simp only [Act.put, pa, pb, pc]
      refine tkf (i := 2) (oi := ⟨some 36, _, _, _, _, _⟩) (v := ?_) rfl (by kernel_rfl) (fun _ _ _ h => lay_put 36 (by decide) h) (by assumption) ?_ ?_
      rotate_left
      ·(intro w hS; (try dsimp only at hS); go_simp; try with_reducible rfl)
      try simp only [Act.put, pa, pb, pc]
      refine tkf (i := 3) (oi := ⟨some 37, _, _, _, _, _⟩) (v := ?_) rfl (by kernel_rfl) (fun _ _ _ h => lay_put 37 (by decide) h) (by assumption) ?_ ?_
      rotate_left
      ·(intro w hS; (try dsimp only at hS); go_simp; try with_reducible rfl)
      try simp only [Act.put, pa, pb, pc]
      refine tkf (i := 4) (oi := ⟨some 38, _, _, _, _, _⟩) (v := ?_) rfl (by kernel_rfl) (fun _ _ _ h => lay_put 38 (by decide) h) (by assumption) ?_ ?_
      rotate_left
      ·(intro w hS; (try dsimp only at hS); go_simp; try with_reducible rfl)
      try simp only [Act.put, pa, pb, pc]
      refine tkf (i := 5) (oi := ⟨some 39, _, _, _, _, _⟩) (v := ?_) rfl (by kernel_rfl) (fun _ _ _ h => lay_put 39 (by decide) h) (by assumption) ?_ ?_
      rotate_left
      ·(intro w hS; (try dsimp only at hS); go_simp; try with_reducible rfl)
      try simp only [Act.put, pa, pb, pc]
      refine tkf (i := 6) (oi := ⟨some 40, _, _, _, _, _⟩) (v := ?_) rfl (by kernel_rfl) (fun _ _ _ h => lay_put 40 (by decide) h) (by assumption) ?_ ?_
      rotate_left
      ·(intro w hS; (try dsimp only at hS); go_simp; try with_reducible rfl)
      try simp only [Act.put, pa, pb, pc]
      refine tkf (i := 7) (oi := ⟨some 41, _, _, _, _, _⟩) (v := ?_) rfl (by kernel_rfl) (fun _ _ _ h => lay_put 41 (by decide) h) (by assumption) ?_ ?_
      rotate_left
      ·(intro w hS; (try dsimp only at hS); go_simp; try with_reducible rfl)
      try simp only [Act.put, pa, pb, pc]
      refine tkf (i := 8) (oi := ⟨some 42, _, _, _, _, _⟩) (v := ?_) rfl (by kernel_rfl) (fun _ _ _ h => lay_put 42 (by decide) h) (by assumption) ?_ ?_
      rotate_left
      ·(intro w hS; (try dsimp only at hS); go_simp; try with_reducible rfl)
      try simp only [Act.put, pa, pb, pc]
      refine tkf (i := 9) (oi := ⟨some 43, _, _, _, _, _⟩) (v := ?_) rfl (by kernel_rfl) (fun _ _ _ h => lay_put 43 (by decide) h) (by assumption) ?_ ?_
      rotate_left
      ·(intro w hS; (try dsimp only at hS); go_simp; try with_reducible rfl)
      try simp only [Act.put, pa, pb, pc]
      refine tkf (i := 10) (oi := ⟨some 44, _, _, _, _, _⟩) (v := ?_) rfl (by kernel_rfl) (fun _ _ _ h => lay_put 44 (by decide) h) (by assumption) ?_ ?_
      rotate_left
      ·(intro w hS; (try dsimp only at hS); go_simp; try with_reducible rfl)
      try simp only [Act.put, pa, pb, pc]
      refine tkf (i := 11) (oi := ⟨some 45, _, _, _, _, _⟩) (v := ?_) rfl (by kernel_rfl) (fun _ _ _ h => lay_put 45 (by decide) h) (by assumption) ?_ ?_
      rotate_left
      ·(intro w hS; (try dsimp only at hS); go_simp; try with_reducible rfl)
      try simp only [Act.put, pa, pb, pc]
      refine wpAnyH_ready (rs := [12]) (by kernel_rfl) (by simp) ?_
      refine AllReadyH.cons (o := ⟨some 46, _, _, _, _, _⟩) rfl (fun K hK => ?_) AllReadyH.nil
      go_simp
      go_at_call 97
      refine (KI.out _ _ LV.out).mono ?_
      rintro e v2 ⟨rfl, hb2⟩
      have L2 := Lib.hid (LV.out.below hb2)
      have q0 := L2.out.bx.cell_some (i := 0) rfl
      have q5 := L2.out.at_.f5
      have q2 := L2.out.at_.f2
      rw [htv] at q2
      clear hb2
      go_simp
      refine hK.out _ _ (⟨q0, q5, q2⟩) (fun hHeld => ?_)
      try simp only [Act.put, pa, pb, pc]
      refine tkf (i := 13) (oi := ⟨some 33, _, _, _, _, _⟩) (v := ?_) rfl (by kernel_rfl) (fun _ _ _ h => lay_put 33 (by decide) h) (by assumption) ?_ ?_
      rotate_left
      ·(intro w hS; (try dsimp only at hS); go_simp; try with_reducible rfl)
      try simp only [Act.put, pa, pb, pc]
      refine tkf (i := 14) (oi := ⟨some 47, _, _, _, _, _⟩) (v := ?_) rfl (by kernel_rfl) (fun _ _ _ h => lay_put 47 (by decide) h) (by assumption) ?_ ?_
      rotate_left
      ·(intro w hS; (try dsimp only at hS); go_simp; try with_reducible rfl)
      try simp only [Act.put, pa, pb, pc]
      refine tkf (i := 15) (oi := ⟨some 48, _, _, _, _, _⟩) (v := ?_) rfl (by kernel_rfl) (fun _ _ _ h => lay_put 48 (by decide) h) (by assumption) ?_ ?_
      rotate_left
      ·(intro w hS; (try dsimp only at hS); go_simp; try with_reducible rfl)
      try simp only [Act.put, pa, pb, pc]
      refine tkf (i := 16) (oi := ⟨some 8, _, _, _, _, _⟩) (v := ?_) rfl (by kernel_rfl) (fun _ _ _ h => lay_put 8 (by decide) h) (by assumption) ?_ ?_
      rotate_left
      ·(intro w hS; (try dsimp only at hS); go_simp; try with_reducible rfl)
      try simp only [Act.put, pa, pb, pc]
      refine tkf (i := 17) (oi := ⟨some 9, _, _, _, _, _⟩) (v := ?_) rfl (by kernel_rfl) (fun _ _ _ h => lay_put 9 (by decide) h) (by assumption) ?_ ?_
      rotate_left
      ·(intro w hS; (try dsimp only at hS); go_simp; try with_reducible rfl)
      try simp only [Act.put, pa, pb, pc]
      refine wpAnyH_done (by kernel_rfl) ?_ _
      go_wp2_with fail
      have LU := Lib.hid (L2.out.below ((Below.refl _ _).drew))
      have r0 := LU.out.bx.cell_some (i := 0) rfl
      have r1 := LU.out.at_.f0
      have r6 := LU.out.at_.f6
      clear q0 q5 q2
      unfold dp at r1
      refine wp_region_held_drew (S := fun W' => W'.cell? ⟨w.heap.size, 0, none⟩ = some (.pointer (some ⟨x.b, 0, none⟩)) ∧ W'.cell? ⟨x.b, 0, none⟩ = some (.pointer (some ⟨x.L.b, 0, none⟩)) ∧ W'.cell? ⟨x.b, 6, none⟩ = some (.int .i64 c.slot)) (by kernel_rfl) (⟨r0, r1, r6⟩) (fun hHeld => ?_)
      refine tkf (i := 0) (oi := ⟨some 49, _, _, _, _, _⟩) (v := ?_) rfl (by kernel_rfl) (fun _ _ _ h => lay_put 49 (by decide) h) (by assumption) ?_ ?_
      rotate_left
      ·(intro w hS; (try dsimp only at hS); go_simp; try with_reducible rfl)
      try simp only [Act.put, pa, pb, pc]
      refine tkf (i := 1) (oi := ⟨some 50, _, _, _, _, _⟩) (v := ?_) rfl (by kernel_rfl) (fun _ _ _ h => lay_put 50 (by decide) h) (by assumption) ?_ ?_
      rotate_left
      ·(intro w hS; (try dsimp only at hS); go_simp; try with_reducible rfl)
      try simp only [Act.put, pa, pb, pc]
      refine tkf (i := 2) (oi := ⟨some 51, _, _, _, _, _⟩) (v := ?_) rfl (by kernel_rfl) (fun _ _ _ h => lay_put 51 (by decide) h) (by assumption) ?_ ?_
      rotate_left
      ·(intro w hS; (try dsimp only at hS); go_simp; try with_reducible rfl)
      try simp only [Act.put, pa, pb, pc]
      refine tkf (i := 3) (oi := ⟨some 52, _, _, _, _, _⟩) (v := ?_) rfl (by kernel_rfl) (fun _ _ _ h => lay_put 52 (by decide) h) (by assumption) ?_ ?_
      rotate_left
      ·(intro w hS; (try dsimp only at hS); go_simp; try with_reducible rfl)
      try simp only [Act.put, pa, pb, pc]
      refine tkf (i := 4) (oi := ⟨some 53, _, _, _, _, _⟩) (v := ?_) rfl (by kernel_rfl) (fun _ _ _ h => lay_put 53 (by decide) h) (by assumption) ?_ ?_
      rotate_left
      ·(intro w hS; (try dsimp only at hS); go_simp; try with_reducible rfl)
      try simp only [Act.put, pa, pb, pc]
      refine tkf (i := 5) (oi := ⟨some 54, _, _, _, _, _⟩) (v := ?_) rfl (by kernel_rfl) (fun _ _ _ h => lay_put 54 (by decide) h) (by assumption) ?_ ?_
      rotate_left
      ·(intro w hS; (try dsimp only at hS); go_simp; try with_reducible rfl)
      try simp only [Act.put, pa, pb, pc]
      refine tkf (i := 6) (oi := ⟨some 55, _, _, _, _, _⟩) (v := ?_) rfl (by kernel_rfl) (fun _ _ _ h => lay_put 55 (by decide) h) (by assumption) ?_ ?_
      rotate_left
      ·(intro w hS; (try dsimp only at hS); go_simp; try with_reducible rfl)
      try simp only [Act.put, pa, pb, pc]
      refine tkf (i := 7) (oi := ⟨some 56, _, _, _, _, _⟩) (v := ?_) rfl (by kernel_rfl) (fun _ _ _ h => lay_put 56 (by decide) h) (by assumption) ?_ ?_
      rotate_left
      ·(intro w hS; (try dsimp only at hS); go_simp; try with_reducible rfl)
      try simp only [Act.put, pa, pb, pc]
      refine tkf (i := 8) (oi := ⟨some 57, _, _, _, _, _⟩) (v := ?_) rfl (by kernel_rfl) (fun _ _ _ h => lay_put 57 (by decide) h) (by assumption) ?_ ?_
      rotate_left
      ·(intro w hS; (try dsimp only at hS); go_simp; try with_reducible rfl)
      try simp only [Act.put, pa, pb, pc]
      refine tkf (i := 9) (oi := ⟨some 58, _, _, _, _, _⟩) (v := ?_) rfl (by kernel_rfl) (fun _ _ _ h => lay_put 58 (by decide) h) (by assumption) ?_ ?_
      rotate_left
      ·(intro w hS; (try dsimp only at hS); go_simp; try with_reducible rfl)
      try simp only [Act.put, pa, pb, pc]
      refine wpAnyH_ready (rs := [10]) (by kernel_rfl) (by simp) ?_
      refine AllReadyH.cons (o := ⟨some 59, _, _, _, _, _⟩) rfl (fun K hK => ?_) AllReadyH.nil
      go_simp
      go_at_call 37
      refine (KW.out _ LU.out).mono ?_
      rintro e v3 ⟨rfl, D3, o3⟩
      have L3 := Lib.hid (LU.out.step (LU.out.at_.disk D3 o3) o3)
      have r0 := L3.out.bx.cell_some (i := 0) rfl
      have r1 := L3.out.at_.f0
      have r6 := L3.out.at_.f6
      unfold dp at r1
      clear D3 o3
      go_simp
      refine hK.out _ _ (⟨r0, r1, r6⟩) (fun hHeld => ?_)
      try simp only [Act.put, pa, pb, pc]
      refine wpAnyH_ready (rs := [11]) (by kernel_rfl) (by simp) ?_
      refine AllReadyH.cons (o := ⟨some 60, _, _, _, _, _⟩) rfl (fun K hK => ?_) AllReadyH.nil
      go_simp
      go_at_call 167
      refine (must_ok _).mono ?_
      rintro e v4 ⟨rfl, rfl⟩
      go_simp
      refine hK.out _ _ (⟨r0, r1, r6⟩) (fun hHeld => ?_)
      try simp only [Act.put, pa, pb, pc]
      refine wpAnyH_done (by kernel_rfl) ?_ _
      have f3 : v3.cell? ⟨w.heap.size, 0, none⟩ = some (.pointer (some ⟨x.b, 0, none⟩)) := r0
      have g3 : v3.cell? ⟨x.b, 0, none⟩ = some (.pointer (some ⟨x.L.b, 0, none⟩)) := r1
      clear r0 r1 r6
      go_wp2_with fail
      refine (KS2.out _ L3.out).mono ?_
      rintro e v5 ⟨rfl, D5, o5⟩
      have L5 := Lib.hid (L3.out.step (L3.out.at_.disk D5 o5) o5)
      clear D5 o5
      go_wp2_with fail
      refine (must_bad ze hze _).mono ?_
      rintro e vm ⟨rfl, rfl⟩
      dsimp only
      have LZ := L5
      refine leaves_cons (f := 164) (args := #[.pointer (some ⟨w.heap.size + 1, 0, none⟩)]) (by simp) (by simp [go_sem]) ?_
      refine (catch_panicking ⟨w.heap.size + 1, 0, none⟩ 0 ze [] _ (LZ.out.bo.cell_some (i := 0) rfl) (LZ.out.bo.frozen 0 (by simp))).mono ?_
      rintro e u' w'' ⟨rfl, rfl, rfl⟩
      obtain ⟨y1, y2, y3⟩ := LZ.out.out (.int .i64 ze)
      refine ⟨.int .i64 ze, ?_, ?_⟩
      ·rw [results_cell_one rfl]
       clear y1 y2
       go_simp
      ·  exact ⟨rfl, y1, y2⟩
    ·go_wp2_with fail
     refine (KS1.out _ HL.out).mono ?_
     rintro e v1 ⟨rfl, D1, o1⟩
     have L1 := Lib.hid (HL.out.step (HL.out.at_.disk D1 o1) o1)
     clear D1 o1 f0 g0
     go_wp2_with fail
     refine (must_ok _).mono ?_
     rintro e vm ⟨rfl, rfl⟩
     have LV := Lib.hid (L1.out.below ((Below.refl _ _).drew))
     have q0 := LV.out.bx.cell_some (i := 0) rfl
     have q5 := LV.out.at_.f5
     have q2 := LV.out.at_.f2
     rw [htv] at q2
     go_wp2_with fail
     refine wp_region_held_drew (S := fun W' => W'.cell? ⟨w.heap.size, 0, none⟩ = some (.pointer (some ⟨x.b, 0, none⟩)) ∧ W'.cell? ⟨x.b, 5, none⟩ = some (.int .i64 c.ep) ∧ W'.cell? ⟨x.b, 2, none⟩ = some (.slice TA c.table.length tc)) (by kernel_rfl) (⟨q0, q5, q2⟩) (fun hHeld => ?_)
     refine tkf (i := 0) (oi := ⟨some 34, _, _, _, _, _⟩) (v := ?_) rfl (by kernel_rfl) (fun _ _ _ h => lay_put 34 (by decide) h) (by assumption) ?_ ?_
     rotate_left
     ·(intro w hS; (try dsimp only at hS); go_simp; try with_reducible rfl)
     try simp only [Act.put, pa, pb, pc]
     refine tkf (i := 1) (oi := ⟨some 35, _, _, _, _, _⟩) (v := ?_) rfl (by kernel_rfl) (fun _ _ _ h => lay_put 35 (by decide) h) (by assumption) ?_ ?_
     rotate_left
     ·(intro w hS; (try dsimp only at hS); go_simp; try with_reducible rfl)
     try simp only [Act.put, pa, pb, pc]
     refine tkf (i := 2) (oi := ⟨some 36, _, _, _, _, _⟩) (v := ?_) rfl (by kernel_rfl) (fun _ _ _ h => lay_put 36 (by decide) h) (by assumption) ?_ ?_
     rotate_left
     ·(intro w hS; (try dsimp only at hS); go_simp; try with_reducible rfl)
     try simp only [Act.put, pa, pb, pc]
     refine tkf (i := 3) (oi := ⟨some 37, _, _, _, _, _⟩) (v := ?_) rfl (by kernel_rfl) (fun _ _ _ h => lay_put 37 (by decide) h) (by assumption) ?_ ?_
     rotate_left
     ·(intro w hS; (try dsimp only at hS); go_simp; try with_reducible rfl)
     try simp only [Act.put, pa, pb, pc]
     refine tkf (i := 4) (oi := ⟨some 38, _, _, _, _, _⟩) (v := ?_) rfl (by kernel_rfl) (fun _ _ _ h => lay_put 38 (by decide) h) (by assumption) ?_ ?_
     rotate_left
     ·(intro w hS; (try dsimp only at hS); go_simp; try with_reducible rfl)
     try simp only [Act.put, pa, pb, pc]
     refine tkf (i := 5) (oi := ⟨some 39, _, _, _, _, _⟩) (v := ?_) rfl (by kernel_rfl) (fun _ _ _ h => lay_put 39 (by decide) h) (by assumption) ?_ ?_
     rotate_left
     ·(intro w hS; (try dsimp only at hS); go_simp; try with_reducible rfl)
     try simp only [Act.put, pa, pb, pc]
     refine tkf (i := 6) (oi := ⟨some 40, _, _, _, _, _⟩) (v := ?_) rfl (by kernel_rfl) (fun _ _ _ h => lay_put 40 (by decide) h) (by assumption) ?_ ?_
     rotate_left
     ·(intro w hS; (try dsimp only at hS); go_simp; try with_reducible rfl)
     try simp only [Act.put, pa, pb, pc]
     refine tkf (i := 7) (oi := ⟨some 41, _, _, _, _, _⟩) (v := ?_) rfl (by kernel_rfl) (fun _ _ _ h => lay_put 41 (by decide) h) (by assumption) ?_ ?_
     rotate_left
     ·(intro w hS; (try dsimp only at hS); go_simp; try with_reducible rfl)
     try simp only [Act.put, pa, pb, pc]
     refine tkf (i := 8) (oi := ⟨some 42, _, _, _, _, _⟩) (v := ?_) rfl (by kernel_rfl) (fun _ _ _ h => lay_put 42 (by decide) h) (by assumption) ?_ ?_
     rotate_left
     ·(intro w hS; (try dsimp only at hS); go_simp; try with_reducible rfl)
     try simp only [Act.put, pa, pb, pc]
     refine tkf (i := 9) (oi := ⟨some 43, _, _, _, _, _⟩) (v := ?_) rfl (by kernel_rfl) (fun _ _ _ h => lay_put 43 (by decide) h) (by assumption) ?_ ?_
     rotate_left
     ·(intro w hS; (try dsimp only at hS); go_simp; try with_reducible rfl)
     try simp only [Act.put, pa, pb, pc]
     refine tkf (i := 10) (oi := ⟨some 44, _, _, _, _, _⟩) (v := ?_) rfl (by kernel_rfl) (fun _ _ _ h => lay_put 44 (by decide) h) (by assumption) ?_ ?_
     rotate_left
     ·(intro w hS; (try dsimp only at hS); go_simp; try with_reducible rfl)
     try simp only [Act.put, pa, pb, pc]
     refine tkf (i := 11) (oi := ⟨some 45, _, _, _, _, _⟩) (v := ?_) rfl (by kernel_rfl) (fun _ _ _ h => lay_put 45 (by decide) h) (by assumption) ?_ ?_
     rotate_left
     ·(intro w hS; (try dsimp only at hS); go_simp; try with_reducible rfl)
     try simp only [Act.put, pa, pb, pc]
     refine wpAnyH_ready (rs := [12]) (by kernel_rfl) (by simp) ?_
     refine AllReadyH.cons (o := ⟨some 46, _, _, _, _, _⟩) rfl (fun K hK => ?_) AllReadyH.nil
     go_simp
     go_at_call 97
     refine (KI.out _ _ LV.out).mono ?_
     rintro e v2 ⟨rfl, hb2⟩
     have L2 := Lib.hid (LV.out.below hb2)
     have q0 := L2.out.bx.cell_some (i := 0) rfl
     have q5 := L2.out.at_.f5
     have q2 := L2.out.at_.f2
     rw [htv] at q2
     clear hb2
     go_simp
     refine hK.out _ _ (⟨q0, q5, q2⟩) (fun hHeld => ?_)
     try simp only [Act.put, pa, pb, pc]
     refine tkf (i := 13) (oi := ⟨some 33, _, _, _, _, _⟩) (v := ?_) rfl (by kernel_rfl) (fun _ _ _ h => lay_put 33 (by decide) h) (by assumption) ?_ ?_
     rotate_left
     ·(intro w hS; (try dsimp only at hS); go_simp; try with_reducible rfl)
     try simp only [Act.put, pa, pb, pc]
     refine tkf (i := 14) (oi := ⟨some 47, _, _, _, _, _⟩) (v := ?_) rfl (by kernel_rfl) (fun _ _ _ h => lay_put 47 (by decide) h) (by assumption) ?_ ?_
     rotate_left
     ·(intro w hS; (try dsimp only at hS); go_simp; try with_reducible rfl)
     try simp only [Act.put, pa, pb, pc]
     refine tkf (i := 15) (oi := ⟨some 48, _, _, _, _, _⟩) (v := ?_) rfl (by kernel_rfl) (fun _ _ _ h => lay_put 48 (by decide) h) (by assumption) ?_ ?_
     rotate_left
     ·(intro w hS; (try dsimp only at hS); go_simp; try with_reducible rfl)
     try simp only [Act.put, pa, pb, pc]
     refine tkf (i := 16) (oi := ⟨some 8, _, _, _, _, _⟩) (v := ?_) rfl (by kernel_rfl) (fun _ _ _ h => lay_put 8 (by decide) h) (by assumption) ?_ ?_
     rotate_left
     ·(intro w hS; (try dsimp only at hS); go_simp; try with_reducible rfl)
     try simp only [Act.put, pa, pb, pc]
     refine tkf (i := 17) (oi := ⟨some 9, _, _, _, _, _⟩) (v := ?_) rfl (by kernel_rfl) (fun _ _ _ h => lay_put 9 (by decide) h) (by assumption) ?_ ?_
     rotate_left
     ·(intro w hS; (try dsimp only at hS); go_simp; try with_reducible rfl)
     try simp only [Act.put, pa, pb, pc]
     refine wpAnyH_done (by kernel_rfl) ?_ _
     go_wp2_with fail
     have LU := Lib.hid (L2.out.below ((Below.refl _ _).drew))
     have r0 := LU.out.bx.cell_some (i := 0) rfl
     have r1 := LU.out.at_.f0
     have r6 := LU.out.at_.f6
     clear q0 q5 q2
     unfold dp at r1
     refine wp_region_held_drew (S := fun W' => W'.cell? ⟨w.heap.size, 0, none⟩ = some (.pointer (some ⟨x.b, 0, none⟩)) ∧ W'.cell? ⟨x.b, 0, none⟩ = some (.pointer (some ⟨x.L.b, 0, none⟩)) ∧ W'.cell? ⟨x.b, 6, none⟩ = some (.int .i64 c.slot)) (by kernel_rfl) (⟨r0, r1, r6⟩) (fun hHeld => ?_)
     refine tkf (i := 0) (oi := ⟨some 49, _, _, _, _, _⟩) (v := ?_) rfl (by kernel_rfl) (fun _ _ _ h => lay_put 49 (by decide) h) (by assumption) ?_ ?_
     rotate_left
     ·(intro w hS; (try dsimp only at hS); go_simp; try with_reducible rfl)
     try simp only [Act.put, pa, pb, pc]
     refine tkf (i := 1) (oi := ⟨some 50, _, _, _, _, _⟩) (v := ?_) rfl (by kernel_rfl) (fun _ _ _ h => lay_put 50 (by decide) h) (by assumption) ?_ ?_
     rotate_left
     ·(intro w hS; (try dsimp only at hS); go_simp; try with_reducible rfl)
     try simp only [Act.put, pa, pb, pc]
     refine tkf (i := 2) (oi := ⟨some 51, _, _, _, _, _⟩) (v := ?_) rfl (by kernel_rfl) (fun _ _ _ h => lay_put 51 (by decide) h) (by assumption) ?_ ?_
     rotate_left
     ·(intro w hS; (try dsimp only at hS); go_simp; try with_reducible rfl)
     try simp only [Act.put, pa, pb, pc]
     refine tkf (i := 3) (oi := ⟨some 52, _, _, _, _, _⟩) (v := ?_) rfl (by kernel_rfl) (fun _ _ _ h => lay_put 52 (by decide) h) (by assumption) ?_ ?_
     rotate_left
     ·(intro w hS; (try dsimp only at hS); go_simp; try with_reducible rfl)
     try simp only [Act.put, pa, pb, pc]
     refine tkf (i := 4) (oi := ⟨some 53, _, _, _, _, _⟩) (v := ?_) rfl (by kernel_rfl) (fun _ _ _ h => lay_put 53 (by decide) h) (by assumption) ?_ ?_
     rotate_left
     ·(intro w hS; (try dsimp only at hS); go_simp; try with_reducible rfl)
     try simp only [Act.put, pa, pb, pc]
     refine tkf (i := 5) (oi := ⟨some 54, _, _, _, _, _⟩) (v := ?_) rfl (by kernel_rfl) (fun _ _ _ h => lay_put 54 (by decide) h) (by assumption) ?_ ?_
     rotate_left
     ·(intro w hS; (try dsimp only at hS); go_simp; try with_reducible rfl)
     try simp only [Act.put, pa, pb, pc]
     refine tkf (i := 6) (oi := ⟨some 55, _, _, _, _, _⟩) (v := ?_) rfl (by kernel_rfl) (fun _ _ _ h => lay_put 55 (by decide) h) (by assumption) ?_ ?_
     rotate_left
     ·(intro w hS; (try dsimp only at hS); go_simp; try with_reducible rfl)
     try simp only [Act.put, pa, pb, pc]
     refine tkf (i := 7) (oi := ⟨some 56, _, _, _, _, _⟩) (v := ?_) rfl (by kernel_rfl) (fun _ _ _ h => lay_put 56 (by decide) h) (by assumption) ?_ ?_
     rotate_left
     ·(intro w hS; (try dsimp only at hS); go_simp; try with_reducible rfl)
     try simp only [Act.put, pa, pb, pc]
     refine tkf (i := 8) (oi := ⟨some 57, _, _, _, _, _⟩) (v := ?_) rfl (by kernel_rfl) (fun _ _ _ h => lay_put 57 (by decide) h) (by assumption) ?_ ?_
     rotate_left
     ·(intro w hS; (try dsimp only at hS); go_simp; try with_reducible rfl)
     try simp only [Act.put, pa, pb, pc]
     refine tkf (i := 9) (oi := ⟨some 58, _, _, _, _, _⟩) (v := ?_) rfl (by kernel_rfl) (fun _ _ _ h => lay_put 58 (by decide) h) (by assumption) ?_ ?_
     rotate_left
     ·(intro w hS; (try dsimp only at hS); go_simp; try with_reducible rfl)
     try simp only [Act.put, pa, pb, pc]
     refine wpAnyH_ready (rs := [10]) (by kernel_rfl) (by simp) ?_
     refine AllReadyH.cons (o := ⟨some 59, _, _, _, _, _⟩) rfl (fun K hK => ?_) AllReadyH.nil
     go_simp
     go_at_call 37
     refine (KW.out _ LU.out).mono ?_
     rintro e v3 ⟨rfl, D3, o3⟩
     have L3 := Lib.hid (LU.out.step (LU.out.at_.disk D3 o3) o3)
     have r0 := L3.out.bx.cell_some (i := 0) rfl
     have r1 := L3.out.at_.f0
     have r6 := L3.out.at_.f6
     unfold dp at r1
     clear D3 o3
     go_simp
     refine hK.out _ _ (⟨r0, r1, r6⟩) (fun hHeld => ?_)
     try simp only [Act.put, pa, pb, pc]
     refine wpAnyH_ready (rs := [11]) (by kernel_rfl) (by simp) ?_
     refine AllReadyH.cons (o := ⟨some 60, _, _, _, _, _⟩) rfl (fun K hK => ?_) AllReadyH.nil
     go_simp
     go_at_call 167
     refine (must_bad we hwe _).mono ?_
     rintro e v4 ⟨rfl, rfl⟩
     dsimp only
     have LZ := L3
     rw [if_pos (by exact hwe)] at HR2
     refine leaves_cons (f := 164) (args := #[.pointer (some ⟨w.heap.size + 1, 0, none⟩)]) (by simp) (by simp [go_sem]) ?_
     refine (catch_panicking ⟨w.heap.size + 1, 0, none⟩ 0 we [] _ (LZ.out.bo.cell_some (i := 0) rfl) (LZ.out.bo.frozen 0 (by simp))).mono ?_
     rintro e u' w'' ⟨rfl, rfl, rfl⟩
     obtain ⟨y1, y2, y3⟩ := LZ.out.out (.int .i64 we)
     refine ⟨.int .i64 we, ?_, ?_⟩
     ·rw [results_cell_one rfl]
      clear y1 y2
      go_simp
     ·subst HR2
      exact ⟨rfl, y1, y2⟩
   ·go_wp2_with fail
    refine (KS1.out _ HL.out).mono ?_
    rintro e v1 ⟨rfl, D1, o1⟩
    have L1 := Lib.hid (HL.out.step (HL.out.at_.disk D1 o1) o1)
    clear D1 o1 f0 g0
    go_wp2_with fail
    refine (must_bad se hse _).mono ?_
    rintro e vm ⟨rfl, rfl⟩
    dsimp only
    have LZ := L1
    rw [if_pos (by exact hse)] at HR2
    refine leaves_cons (f := 164) (args := #[.pointer (some ⟨w.heap.size + 1, 0, none⟩)]) (by simp) (by simp [go_sem]) ?_
    refine (catch_panicking ⟨w.heap.size + 1, 0, none⟩ 0 se [] _ (LZ.out.bo.cell_some (i := 0) rfl) (LZ.out.bo.frozen 0 (by simp))).mono ?_
    rintro e u' w'' ⟨rfl, rfl, rfl⟩
    obtain ⟨y1, y2, y3⟩ := LZ.out.out (.int .i64 se)
    refine ⟨.int .i64 se, ?_, ?_⟩
    ·rw [results_cell_one rfl]
     clear y1 y2
     go_simp
    ·subst HR2
     exact ⟨rfl, y1, y2⟩
end Go.Proofs.YtbelcgjbhpjnpaaGreat.Sh
