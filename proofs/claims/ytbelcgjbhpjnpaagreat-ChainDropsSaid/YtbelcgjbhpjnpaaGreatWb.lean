/- shadow by its contracts: Abort; the table cut; what a commit lays. -/
import Derived.Test.YtbelcgjbhpjnpaaGreatW3
import Derived.Test.YtbelcgjbhpjnpaaGreatMa
set_option linter.all false
set_option linter.unusedVariables false
set_option linter.unusedSimpArgs false
set_option maxRecDepth 100000
namespace Go.Proofs.YtbelcgjbhpjnpaaGreat.Sh
open Go.RowKit Pk Dk Pg
attribute [local go_sem ↓] Go.wp_at_zero Go.wp_at_succ
section
variable {w w' : World} {x : X} {n : Nat} {c : C}
/-- blocks of the store's own that are no slices of numbers -/
theorem At.own_ne (h : At w x n c) {g : Nat} {cs : Array Value} (B : Blk w g 115 cs) : g ≠ x.mb ∧ g ≠ x.mg ∧ g ∉ x.L.fp ∧ ∀ {v : Value} {k : Nat} {l : List Value}, Sl w 3 v k l → g ∉ ownS v := by
 refine ⟨fun e => by subst e; exact B.ne_ h.hm.hb (by decide) rfl, fun e => by subst e; exact B.ne_ h.hm.hg (by decide) rfl, fun hg => ?_, fun S hg => ?_⟩
 ·simp only [Loc.fp, List.mem_cons, List.not_mem_nil, or_false] at hg
  rcases hg with rfl | rfl | rfl | rfl
  ·exact B.ne_ h.hd.hb (by decide) rfl
  ·exact B.ne_ h.hd.hN (by decide) rfl
  ·exact B.ne_ h.hd.hO (by decide) rfl
  ·exact B.ne_ h.hd.hL (by decide) rfl
 ·obtain ⟨cs', B'⟩ := sl_int S _ hg
  exact B.ne_ B' (by decide) rfl
/-- another table laid: a slice that is the old one's, or new -/
theorem At.newT (h : At w x n c) {v' : Value} {l : List Int} (S : Sl w 3 v' l.length (nvs' l)) (hg : x.mg ∉ ownS v') (ho : ∀ g ∈ ownS v', g ∉ ownS x.ov) (hp : ∀ g ∈ ownS v', g ∉ ownS x.pv) (hl : l.length ≤ 512) :
  w.cell? ⟨x.b, 2, none⟩ = some x.tv ∧ w.frozen? ⟨x.b, 2, none⟩ = false ∧ At (w.setCell ⟨x.b, 2, none⟩ v') { x with tv := v' } n { c with table := l } ∧ Only [x.b] w (w.setCell ⟨x.b, 2, none⟩ v') := by
 have o2 := (Only.refl [x.b] w).setCell (p := ⟨x.b, 2, none⟩) (by simp) v'
 obtain ⟨n1, n2, n3, n4⟩ := h.own_ne h.hb
 have ns : ∀ {v : Value} {k : Nat} {l : List Value}, Sl w 3 v k l → ∀ g ∈ ownS v, g ∉ [x.b] := fun S g hg hm => n4 S (by rw [← List.mem_singleton.1 hm]; exact hg)
 exact ⟨h.f2, h.fz 2 (by omega), ⟨h.hb.set_ 2 v', h.hd.only o2 (fun g hg hm => n3 (by rw [← List.mem_singleton.1 hm]; exact hg)), h.hm.only o2 (fun hm => n1 (List.mem_singleton.1 hm).symm) (fun hm => n2 (List.mem_singleton.1 hm).symm), S.only o2 (ns S), h.ho.only o2 (ns h.ho), h.hp.only o2 (fun g hg hm => h.hp.far h.hb (by decide) (by decide) (by rw [← List.mem_singleton.1 hm]; exact hg)), hg, h.n2, h.n3, ho, hp, h.n6, hl⟩, o2⟩
/-- what a commit lays at its end -/
theorem At.newC (h : At w x n c) {vo vp : Value} {lo lp : List Int} (So : Sl w 3 vo lo.length (nvs' lo)) (Sp : Sl w 3 vp lp.length (nvs' lp)) (go : ∀ g ∈ ownS vo, g ∉ x.fp) (gp : ∀ g ∈ ownS vp, g ∉ x.fp) (op : ∀ g ∈ ownS vo, g ∉ ownS vp) (ep sl : Int) :
  At ((((w.setCell ⟨x.b, 3, none⟩ vo).setCell ⟨x.b, 4, none⟩ vp).setCell ⟨x.b, 5, none⟩ (.int .i64 ep)).setCell ⟨x.b, 6, none⟩ (.int .i64 sl)) { x with ov := vo, pv := vp } n { c with old := lo, parts := lp, ep := ep, slot := sl } ∧
  Only [x.b] w ((((w.setCell ⟨x.b, 3, none⟩ vo).setCell ⟨x.b, 4, none⟩ vp).setCell ⟨x.b, 5, none⟩ (.int .i64 ep)).setCell ⟨x.b, 6, none⟩ (.int .i64 sl)) := by
 have o2 : Only [x.b] w ((((w.setCell ⟨x.b, 3, none⟩ vo).setCell ⟨x.b, 4, none⟩ vp).setCell ⟨x.b, 5, none⟩ (.int .i64 ep)).setCell ⟨x.b, 6, none⟩ (.int .i64 sl)) := ((((Only.refl [x.b] w).setCell (p := ⟨x.b, 3, none⟩) (by simp) _).setCell (p := ⟨x.b, 4, none⟩) (by simp) _).setCell (p := ⟨x.b, 5, none⟩) (by simp) _).setCell (p := ⟨x.b, 6, none⟩) (by simp) _
 obtain ⟨n1, n2, n3, n4⟩ := h.own_ne h.hb
 have ns : ∀ {v : Value} {k : Nat} {l : List Value}, Sl w 3 v k l → ∀ g ∈ ownS v, g ∉ [x.b] := fun S g hg hm => n4 S (by rw [← List.mem_singleton.1 hm]; exact hg)
 exact ⟨⟨(((h.hb.set_ 3 vo).set_ 4 vp).set_ 5 _).set_ 6 _, h.hd.only o2 (fun g hg hm => n3 (by rw [← List.mem_singleton.1 hm]; exact hg)), h.hm.only o2 (fun hm => n1 (List.mem_singleton.1 hm).symm) (fun hm => n2 (List.mem_singleton.1 hm).symm), h.ht.only o2 (ns h.ht), So.only o2 (ns So), .inl (Sp.only o2 (ns Sp)), h.n1, fun hg => go _ hg (by simp [X.fp]), fun hg => gp _ hg (by simp [X.fp]), fun g hg hm => go g hm (by simp [X.fp, hg]), fun g hg hm => gp g hm (by simp [X.fp, hg]), op, h.tl⟩, o2⟩
end
def C.abortF (c : C) : C := { c with m := Fm.turnF 1 0 c.m, table := c.old }
set_option maxRecDepth 100000 in
set_option maxHeartbeats 2000000 in
theorem sabort_any {w : World} {x : X} {n : Nat} {c : C} (h : At w x n c) (hol : c.old.length ≤ 512) :
  Calls Tryz.prog 35 #[sp x.b] w fun e w' => e = .returned (.bool true) ∧ Post w w' x n c.abortF := by
 have f1 := h.f1
 have KA := Lib.hid (Fm.abort_any h.hm)
 have HM := Lib.hid (fun (W' : World) (mm : Fm.MapAt W' x.mb x.mg (Fm.turnF 1 0 c.m)) (ow : Only [x.mg] w W') => h.map mm ow)
 have KC := Lib.hid (fun (W : World) (c' : C) (hW : At W x n c') (hl : c'.old.length ≤ 512) => clone_sl hW.ho (by omega))
 have HLT := Lib.hid h.lt
 clear h
 unfold sp Fm.mp at *
 go_enter Tryz.func35, Tryz.ntmps35
 go_wp2_with fail
 refine KA.out.mono ?_
 rintro e w1 ⟨rfl, mm, ow⟩
 have A1 := Lib.hid (HM.out _ mm ow)
 have O1 := Lib.hid ow
 have f3 := A1.out.f3
 obtain ⟨VA, vc, hv, _⟩ := A1.out.ho.val
 have K2 := KC.out w1 _ A1.out hol
 rw [hv] at K2 f3
 have K2 := Lib.hid K2
 have HV := Lib.hid hv
 clear mm ow f1 hv
 go_wp2_with fail
 refine K2.out.mono ?_
 rintro e w2 ⟨v', rfl, S2, hb2, fr2⟩
 have A2 := A1.out.below hb2
 obtain ⟨V2, c2, rfl, _⟩ := S2.val
 obtain ⟨q2, z2, A3, o3⟩ := A2.newT S2 (fun hg => by have := A1.out.hm.hg.lt; have := fr2 _ hg; omega) (fun g hg ho => by have := A1.out.ho.lt g ho; have := fr2 g hg; omega) (fun g hg ho => by have := A1.out.hp.lt g ho; have := fr2 g hg; omega) hol
 have R := Lib.hid (show Post w (w2.setCell ⟨x.b, 2, none⟩ (.slice V2 c.old.length c2)) x n c.abortF from
  ⟨{ x with tv := .slice V2 c.old.length c2 }, rfl, rfl, A3, ((O1.out.mono (fun g hg _ => mg_fp x g hg)).trans (.of_below hb2)).trans (o3.mono (fun g hg _ => by simp at hg; subst hg; simp [X.fp])), fun g hg => by
   simp only [X.fp, List.mem_cons, List.mem_append] at hg ⊢
   rcases hg with hg | hg | hg | ((hg | hg) | hg) | hg
   ·exact .inl (.inl hg)
   ·exact .inl (.inr (.inl hg))
   ·exact .inl (.inr (.inr (.inl hg)))
   ·exact .inl (.inr (.inr (.inr (.inl (.inl (.inl hg))))))
   ·exact .inr (by have := fr2 g hg; have := O1.out.size; omega)
   ·exact .inl (.inr (.inr (.inr (.inl (.inr hg)))))
   ·exact .inl (.inr (.inr (.inr (.inr hg))))⟩)
 clear S2 hb2 fr2 A2 A3 o3
 go_wp2_with fail
 go_ret
 exact ⟨by first | rfl | simp, R.out⟩
end Go.Proofs.YtbelcgjbhpjnpaaGreat.Sh

/- what a commit does, plainly: its words. -/
namespace Go.Proofs.YtbelcgjbhpjnpaaGreat.Sh
open Go.RowKit Pk Dk Pg
/-- how long the table is without its last empty places -/
def trimT (t : List Int) : Nat → Nat
 | 0 => 0
 | k + 1 => if t.getD k 0 < 0 then trimT t k else k + 1
theorem trimT_succ (t : List Int) (k : Nat) : trimT t (k + 1) = if t.getD k 0 < 0 then trimT t k else k + 1 := rfl
theorem trimT_le (t : List Int) : ∀ k, trimT t k ≤ k
 | 0 => Nat.le_refl _
 | k + 1 => by
  rw [trimT_succ]
  split
  ·have := trimT_le t k; omega
  ·exact Nat.le_refl _
/-- so many pages taken -/
def takeN (m : List Int) : Nat → List Int × List Int
 | 0 => (m, [])
 | k + 1 => ((Fm.takeF (takeN m k).1).1, (takeN m k).2 ++ [(Fm.takeF (takeN m k).1).2.1])
theorem takeN_len (m : List Int) : ∀ k, (takeN m k).2.length = k
 | 0 => rfl
 | k + 1 => by show ((takeN m k).2 ++ _).length = _; rw [List.length_append, takeN_len m k]; rfl
def leaveAll (m : List Int) : List Int → List Int
 | [] => m
 | p :: l => leaveAll (Fm.leaveF m p).1 l
theorem leaveAll_app (m : List Int) (a b : List Int) : leaveAll m (a ++ b) = leaveAll (leaveAll m a) b := by
 induction a generalizing m with
 | nil => rfl
 | cons p l ih => exact ih _
def C.trimF (c : C) : C := { c with table := c.table.take (trimT c.table c.table.length) }
def C.commitF (c : C) (n : Nat) : C × Int :=
 if (Fm.listF c.m 0).length < needT c.trimF.table.length then (c.trimF, 11)
 else if 1099511627776 ≤ c.ep then (c.trimF, 3)
 else if (({ c.trimF with m := (takeN c.m (needT c.trimF.table.length)).1 } : C).layF n ((takeN c.m (needT c.trimF.table.length)).2.map Int.toNat)).2 ≠ 0 then
  ({ c.trimF with m := (takeN c.m (needT c.trimF.table.length)).1, d := (({ c.trimF with m := (takeN c.m (needT c.trimF.table.length)).1 } : C).layF n ((takeN c.m (needT c.trimF.table.length)).2.map Int.toNat)).1, broken := true }, (({ c.trimF with m := (takeN c.m (needT c.trimF.table.length)).1 } : C).layF n ((takeN c.m (needT c.trimF.table.length)).2.map Int.toNat)).2)
 else ({ c.trimF with m := Fm.turnF 0 1 (leaveAll (takeN c.m (needT c.trimF.table.length)).1 c.parts), d := (({ c.trimF with m := (takeN c.m (needT c.trimF.table.length)).1 } : C).layF n ((takeN c.m (needT c.trimF.table.length)).2.map Int.toNat)).1, old := c.trimF.table, parts := (takeN c.m (needT c.trimF.table.length)).2, ep := c.ep + 1, slot := 1 - c.slot }, 0)
def lenAt (w : World) (b : Nat) : Nat := match w.cell? ⟨b, 2, none⟩ with
 | some (.slice _ n _) => n
 | _ => 0
theorem needF_T (k : Nat) : Rt.needF (k : Nat) = (needT k : Nat) := by unfold Rt.needF needT; omega
theorem ownS_len (A : Option Addr) (k m c : Nat) : ownS (.slice A k c) = ownS (.slice A m c) := by cases A <;> rfl
end Go.Proofs.YtbelcgjbhpjnpaaGreat.Sh

/- the nil store by its contracts. -/
namespace Go.Proofs.YtbelcgjbhpjnpaaGreat.Sh
open Go.RowKit Pk Dk Pg
attribute [local go_sem ↓] Go.wp_at_zero Go.wp_at_succ exec_app
set_option maxRecDepth 100000 in
set_option maxHeartbeats 1000000 in
theorem at_nil (l : Int) (w : World) :
  Calls Tryz.prog 89 #[.pointer none, .int .i64 l] w fun e w' => e = .returned (.int .i64 1) ∧ w = w' := by
 go_enter Tryz.func89, Tryz.ntmps89
 go_wp2_with fail
 refine (works_nil _).mono ?_
 rintro e w1 ⟨rfl, rfl⟩
 go_wp2_with fail
 go_ret
 exact ⟨by first | rfl | simp, rfl⟩
set_option maxRecDepth 100000 in
set_option maxHeartbeats 1000000 in
theorem snew_nil (s : ByteArray) (w : World) :
  Calls Tryz.prog 28 #[.pointer none, .string s] w fun e w' => e = .returned (.tuple #[.int .i64 0, .int .i64 1]) ∧ w = w' := by
 go_enter Tryz.func28, Tryz.ntmps28
 go_wp2_with fail
 refine (works_nil _).mono ?_
 rintro e w1 ⟨rfl, rfl⟩
 go_wp2_with fail
 refine bodyPost_ret (v := .tuple #[.int .i64 0, .int .i64 1]) ?_ rfl ⟨rfl, rfl⟩
 simp [results, Tryz.results28, go_sem]
set_option maxRecDepth 100000 in
set_option maxHeartbeats 1000000 in
theorem sread_nil (l : Int) (w : World) :
  Calls Tryz.prog 29 #[.pointer none, .int .i64 l] w fun e w' => e = .returned (.tuple #[.string ⟨#[]⟩, .int .i64 1]) ∧ w = w' := by
 go_enter Tryz.func29, Tryz.ntmps29
 go_wp2_with fail
 refine (at_nil _ _).mono ?_
 rintro e w1 ⟨rfl, rfl⟩
 go_wp2_with fail
 refine bodyPost_ret (v := .tuple #[.string ⟨#[]⟩, .int .i64 1]) ?_ rfl ⟨rfl, rfl⟩
 simp [results, Tryz.results29, go_sem]
set_option maxRecDepth 100000 in
set_option maxHeartbeats 1000000 in
theorem swrite_nil (l : Int) (s : ByteArray) (w : World) :
  Calls Tryz.prog 32 #[.pointer none, .int .i64 l, .string s] w fun e w' => e = .returned (.int .i64 1) ∧ w = w' := by
 go_enter Tryz.func32, Tryz.ntmps32
 go_wp2_with fail
 refine (works_nil _).mono ?_
 rintro e w1 ⟨rfl, rfl⟩
 go_wp2_with fail
 go_ret
 exact ⟨by first | rfl | simp, rfl⟩
set_option maxRecDepth 100000 in
set_option maxHeartbeats 1000000 in
theorem sdrop_nil (l : Int) (w : World) :
  Calls Tryz.prog 33 #[.pointer none, .int .i64 l] w fun e w' => e = .returned (.int .i64 1) ∧ w = w' := by
 go_enter Tryz.func33, Tryz.ntmps33
 go_wp2_with fail
 refine (at_nil _ _).mono ?_
 rintro e w1 ⟨rfl, rfl⟩
 go_wp2_with fail
 go_ret
 exact ⟨by first | rfl | simp, rfl⟩
set_option maxRecDepth 100000 in
set_option maxHeartbeats 1000000 in
theorem scommit_nil (w : World) :
  Calls Tryz.prog 34 #[.pointer none] w fun e w' => e = .returned (.int .i64 1) ∧ w = w' := by
 go_enter Tryz.func34, Tryz.ntmps34
 go_wp2_with fail
 refine (works_nil _).mono ?_
 rintro e w1 ⟨rfl, rfl⟩
 go_wp2_with fail
 go_ret
 exact ⟨by first | rfl | simp, rfl⟩
set_option maxRecDepth 100000 in
set_option maxHeartbeats 1000000 in
theorem sabort_nil (w : World) :
  Calls Tryz.prog 35 #[.pointer none] w fun e w' => e = .returned (.bool false) ∧ w = w' := by
 go_enter Tryz.func35, Tryz.ntmps35
 go_wp2_with fail
 go_ret
 exact ⟨by first | rfl | simp, rfl⟩
set_option maxRecDepth 100000 in
set_option maxHeartbeats 1000000 in
theorem spages_nil (w : World) :
  Calls Tryz.prog 36 #[.pointer none] w fun e w' => e = .returned (.slice none 0 0) ∧ w = w' := by
 go_enter Tryz.func36, Tryz.ntmps36
 go_wp2_with fail
 go_ret
 exact ⟨by first | rfl | simp, rfl⟩
set_option maxRecDepth 100000 in
set_option maxHeartbeats 1000000 in
theorem sepoch_nil (w : World) :
  Calls Tryz.prog 27 #[.pointer none] w fun e w' => e = .returned (.int .i64 0) ∧ w = w' := by
 go_enter Tryz.func27, Tryz.ntmps27
 go_wp2_with fail
 go_ret
 exact ⟨by first | rfl | simp, rfl⟩
set_option maxRecDepth 100000 in
set_option maxHeartbeats 1000000 in
theorem sreach_nil (w : World) :
  Calls Tryz.prog 24 #[.pointer none] w fun e w' => e = .returned (.slice none 0 0) ∧ w = w' := by
 go_enter Tryz.func24, Tryz.ntmps24
 go_wp2_with fail
 go_ret
 exact ⟨by first | rfl | simp, rfl⟩
set_option maxRecDepth 100000 in
set_option maxHeartbeats 1000000 in
theorem scount_nil (w : World) :
  Calls Tryz.prog 23 #[.pointer none] w fun e w' => e = .returned (.tuple #[.int .i64 0, .int .i64 0, .int .i64 0, .int .i64 0]) ∧ w = w' := by
 go_enter Tryz.func23, Tryz.ntmps23
 go_wp2_with fail
 refine bodyPost_ret (v := .tuple #[.int .i64 0, .int .i64 0, .int .i64 0, .int .i64 0]) ?_ rfl ⟨rfl, rfl⟩
 simp [results, Tryz.results23, go_sem]
set_option maxRecDepth 100000 in
set_option maxHeartbeats 1000000 in
theorem open_nil (w : World) :
  Calls Tryz.prog 30 #[.pointer none] w fun e w' => e = .returned (.tuple #[.pointer none, .int .i64 1]) ∧ w = w' := by
 go_enter Tryz.func30, Tryz.ntmps30
 go_wp2_with fail
 refine bodyPost_ret (v := .tuple #[.pointer none, .int .i64 1]) ?_ rfl ⟨rfl, rfl⟩
 simp [results, Tryz.results30, go_sem]
set_option maxRecDepth 100000 in
set_option maxHeartbeats 1000000 in
theorem format_nil (w : World) :
  Calls Tryz.prog 31 #[.pointer none] w fun e w' => e = .returned (.tuple #[.pointer none, .int .i64 1]) ∧ w = w' := by
 go_enter Tryz.func31, Tryz.ntmps31
 go_wp2_with fail
 refine bodyPost_ret (v := .tuple #[.pointer none, .int .i64 1]) ?_ rfl ⟨rfl, rfl⟩
 simp [results, Tryz.results31, go_sem]
end Go.Proofs.YtbelcgjbhpjnpaaGreat.Sh
