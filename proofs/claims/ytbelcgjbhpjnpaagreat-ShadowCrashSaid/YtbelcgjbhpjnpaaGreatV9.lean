/- shadow's laws: Crash. -/
import Derived.Test.YtbelcgjbhpjnpaaGreatV8
set_option linter.all false
set_option linter.unusedVariables false
set_option linter.unusedSimpArgs false
namespace Go.Proofs.YtbelcgjbhpjnpaaGreat.Sh
open Go.RowKit Pk Dk Pg
attribute [local go_sem ↓] Go.wp_at_zero Go.wp_at_succ
section
variable {w0 w w1 w' : World} {x : X} {rb n : Nat} {c : C} {a : St} {α : Int} {K : Nat} {tw : Bool}
theorem LS.base (h : LS w1 w x rb n c a α K tw) (hb : Below w0.heap.size w0 w1) : LS w0 w x rb n c a α K tw := by
 obtain ⟨nv, ov, R, fr⟩ := h.rt
 have := hb.size
 exact ⟨h.at_, ⟨nv, ov, R, fun g hg => by have := fr g hg; omega⟩, bstep hb h.b0, fun g hg => by have := h.fr g hg; omega, h.g, h.R, h.T, h.h0, h.e, h.al, h.bc, h.be⟩
theorem LS.arm_ (h : LS w0 w x rb n c a α K true) {β : Int} (h1 : 1 ≤ β) (h2 : β ≤ 1000) (D : DiskAt w' x.L n ((c.armed α).d.armF β).1) (o : Only x.L.fp w w') : LS w0 w' x rb n c a β K true := by
 obtain ⟨nv, ov, R, fr⟩ := h.rt
 have e : ((c.armed α).d.armF β).1 = (c.armed β).d := by
  unfold Dk.D.armF
  rw [show (c.armed α).d.down = false from h.g.up, if_neg (by decide), if_neg (by omega)]
  show _ = ({ c.d with armed := β } : Dk.D)
  rw [← h.g.up]
  rfl
 rw [e] at D
 have hL : ∀ g ∈ x.L.fp, g ∈ x.fp := fun g hg => by simp [X.fp, hg]
 exact ⟨h.at_.disk D o, ⟨nv, ov, R.only o (fun g hg hm => h.at_.not_doc R g hg (hL g hm)), fr⟩, h.b0.trans (o.below_of h.b0.size (fun g hg => h.fr g (hL g hg))), h.fr, h.g, h.R, h.T, .inr rfl, h.e, ⟨by omega, h2⟩, h.bc, h.be⟩
theorem LS.up (h : LS w0 w x rb n c a α K tw) : (c.armed α).d.down = false := h.g.up
theorem LS.aof (h : LS w0 w x rb n c a α K tw) : a.ep = c.ep ∧ a.old = (c.absF n).old ∧ a.nextF = (c.absF n).nextF := by
 obtain ⟨k, e⟩ := h.e
 rw [e, pad_next]
 exact ⟨rfl, rfl, rfl⟩
theorem LS.mn (h : LS w0 w x rb n c a α K tw) : a.many = pagesF n := h.many
/-- behind the last call -/
theorem LS.cr (h : LS w0 w x rb n c a α K tw) (hK : K + 1 ≤ 500) : ∃ nv ov, RAt w rb nv ov a ∧ CR w0 w x.L rb n a nv ov ov a.old (c.armed α).d (K + 1) := by
 obtain ⟨nv, ov, R, fr⟩ := h.rt
 have hL : ∀ g ∈ x.L.fp, g ∈ x.fp := fun g hg => by simp [X.fp, hg]
 obtain ⟨e1, e2, _⟩ := h.aof
 refine ⟨nv, ov, R, h.at_.hd, fun g hg => h.fr g (hL g hg), R, fr, R.ho, R.lo, fun g hg => fr g (List.mem_cons_of_mem _ (List.mem_append_right _ hg)), h.b0, h.many, fun cr => .inl ⟨c.slot, c.parts, c.old, ?_⟩, ?_, ?_, hK⟩
 ·rw [e1, e2]
  exact (on_disk h.g h.R).crash (d' := (c.armed α).d) (fun _ _ _ => ⟨rfl, id⟩) h.at_.hd.ok cr
 ·have := h.bc
  show c.d.calls ≤ _; omega
 ·have := h.be
  rw [e1]; omega
/-- behind a call in whose midst the disk went down -/
theorem gone_cr {nv ov : Value} {d' : D} {kd : Int} (h : LS w0 w x rb n c a α K tw) (hK : K + 1 ≤ 500) (D : DiskAt w' x.L n d') (G : Gone c n kd d') (R : RAt w' rb nv ov a) (fr : ∀ g ∈ rb :: (ownB nv ++ ownB ov), w0.heap.size ≤ g) (b0 : Below w0.heap.size w0 w') {vn : Value} {o2 : List (Option (List UInt8))} (V : SlAt w' vn (oldS o2)) (vl : o2.length ≤ 512) (vf : ∀ g ∈ ownB vn, w0.heap.size ≤ g) (ho : (kd = 6 ∨ kd = 7) → o2 = a.nextF) : CR w0 w' x.L rb n a nv ov vn o2 d' (K + 1) := by
 have hL : ∀ g ∈ x.L.fp, g ∈ x.fp := fun g hg => by simp [X.fp, hg]
 obtain ⟨e1, e2, e3⟩ := h.aof
 refine ⟨D, fun g hg => h.fr g (hL g hg), R, fr, V, vl, vf, b0, h.many, fun cr => ?_, ?_, ?_, hK⟩
 ·rcases G.2.2.2 cr with g | ⟨hk, g⟩
  ·rw [e1, e2]; exact .inl g
  ·rw [e1, ho hk, e3]; exact .inr g
 ·have := h.bc
  have := G.2.2.1
  omega
 ·have := h.be
  rw [e1]; omega
end
/-- between two calls of the law's: the disk at L, armed or not -/
def CS (w0 w : World) (L : Dk.Loc) (b rb n K : Nat) : Prop := ∃ x c a α, x.L = L ∧ x.b = b ∧ LS w0 w x rb n c a α K true
section
variable {w0 w w' : World} {L : Dk.Loc} {b rb n K : Nat}
theorem CS.below (h : CS w0 w L b rb n K) (hb : Below w.heap.size w w') : CS w0 w' L b rb n K := by
 obtain ⟨x, c, a, α, e1, e2, S⟩ := h
 exact ⟨x, c, a, α, e1, e2, S.below hb⟩
theorem CS.b0 (h : CS w0 w L b rb n K) : Below w0.heap.size w0 w := by
 obtain ⟨x, c, a, α, e1, e2, S⟩ := h
 exact S.b0
theorem CS.more (h : CS w0 w L b rb n K) : CS w0 w L b rb n (K + 1) := by
 obtain ⟨x, c, a, α, e1, e2, S⟩ := h
 exact ⟨x, c, a, α, e1, e2, S.at_, S.rt, S.b0, S.fr, S.g, S.R, S.T, S.h0, S.e, S.al, by have := S.bc; omega, by have := S.be; omega⟩
theorem CR.below {a : St} {nv ov vn : Value} {o2 : List (Option (List UInt8))} {d' : Dk.D} (h : CR w0 w L rb n a nv ov vn o2 d' K) (hb : Below w.heap.size w w') : CR w0 w' L rb n a nv ov vn o2 d' K :=
 ⟨h.dk.below hb, h.lf, h.rt.below hb, h.rf, h.vs.below hb, h.vl, h.vf, bstep h.b0 hb, h.mn, h.hO, h.bc, h.be, h.bk⟩
theorem CS.down (h : CS w0 w L b rb n K) : Calls Tryz.prog 20 #[dp L.b] w fun e w' => e = .returned (.bool false) ∧ w = w' := by
 obtain ⟨x, c, a, α, rfl, e2, S⟩ := h
 have K := down_any S.at_.hd
 rw [S.up] at K
 exact K
theorem CS.arm (h : CS w0 w L b rb n K) (β : Int) (h1 : 1 ≤ β) (h2 : β ≤ 1000) : Calls Tryz.prog 18 #[dp L.b, .int .i64 β] w fun e w' => ∃ z, e = .returned (.int .i64 z) ∧ CS w0 w' L b rb n K := by
 obtain ⟨x, c, a, α, rfl, e2, S⟩ := h
 exact (arm_any S.at_.hd β).mono fun e w' ⟨r, D, o⟩ => ⟨_, r, x, c, a, β, rfl, e2, S.arm_ h1 h2 D o⟩
theorem CS.last (h : CS w0 w L b rb n K) (hK : K + 1 ≤ 500) : ∃ nv ov a d', RAt w rb nv ov a ∧ CR w0 w L rb n a nv ov ov a.old d' (K + 1) := by
 obtain ⟨x, c, a, α, rfl, e2, S⟩ := h
 obtain ⟨nv, ov, R, C⟩ := S.cr hK
 exact ⟨nv, ov, a, _, R, C⟩
/-- and what the next commit would commit is at v -/
def CN (w0 w : World) (L : Dk.Loc) (b rb n K : Nat) (v : Value) : Prop := ∃ x c a α, x.L = L ∧ x.b = b ∧ LS w0 w x rb n c a α K true ∧ SlAt w v (oldS a.nextF) ∧ ∀ g ∈ ownB v, w0.heap.size ≤ g
theorem CN.cs {v : Value} (h : CN w0 w L b rb n K v) : CS w0 w L b rb n K := by
 obtain ⟨x, c, a, α, e1, e2, S, _⟩ := h
 exact ⟨x, c, a, α, e1, e2, S⟩
theorem CS.next (h : CS w0 w L b rb n K) : Calls Tryz.prog 19 #[rp rb] w fun e w' => ∃ v, e = .returned v ∧ CN w0 w' L b rb n K v := by
 obtain ⟨x, c, a, α, e1, e2, S⟩ := h
 obtain ⟨nv, ov, R, fr⟩ := S.rt
 exact (rnext_any R).mono fun e w' ⟨v, r, V, hb, f⟩ => ⟨v, r, x, c, a, α, e1, e2, S.below hb, V, fun g hg => Nat.le_trans S.b0.size (f g hg)⟩
theorem CN.part {v : Value} (h : CN w0 w L b rb n K v) (kd l : Int) (s : ByteArray) (hs : s.size ≤ 1000000) (hK : K + 1 ≤ 500) (h9 : kd ≠ 9) :
  Calls Tryz.prog 21 #[dp L.b, sp b, rp rb, .agg #[.int .i64 kd, .int .i64 l, .string s]] w fun e W =>
   (e = .returned (.bool true) ∧ CS w0 W L b rb n (K + 1)) ∨
   (e = .returned (.bool false) ∧ Below w0.heap.size w0 W ∧ ∃ nv ov a d', RAt W rb nv ov a ∧ ((kd = 6 ∨ kd = 7) → CR w0 W L rb n a nv ov v a.nextF d' (K + 1)) ∧ (¬ (kd = 6 ∨ kd = 7) → CR w0 W L rb n a nv ov ov a.old d' (K + 1))) := by
 obtain ⟨x, c, a, α, rfl, rfl, S, V, f⟩ := h
 refine (S.part kd l s hs (by omega) h9).mono ?_
 rintro e W (⟨x', c', a', α', h1, h2, h3, r, S'⟩ | ⟨nv, ov, d', r, D, G, R, fr, b0, o⟩)
 ·exact .inl ⟨r, x', c', a', α', h1, h2, S'⟩
 ·refine .inr ⟨r, b0, nv, ov, a, d', R, fun hk => ?_, fun hk => ?_⟩
  ·have V' : SlAt W v (oldS a.nextF) := V.only o (fun g hg => by
    obtain ⟨cs, B⟩ := slc_blk V g hg
    exact S.at_.alien B (by decide) (by decide) (by decide) (by decide) (by decide) (by decide) (by decide))
   have hnl := next_len a
   have hln := R.ln
   exact gone_cr S hK D G R fr b0 V' (by omega) f (fun _ => rfl)
  ·exact gone_cr S hK D G R fr b0 R.ho R.lo (fun g hg => fr g (List.mem_cons_of_mem _ (List.mem_append_right _ hg))) (fun h => absurd h hk)
end
set_option maxRecDepth 100000 in
set_option maxHeartbeats 8000000 in
theorem shadowCrash_any (arm : Nat) (ha : arm < 256) {w : World} (A : Option Addr) (m cc : Nat) (F : Nat → Sa) (hm : m ≤ 9223372036854775807) (hA : SActs w A m F) (cr : Cr) (hC : cr.At w) (hcm : cr.m ≤ 9223372036854775807)
  (A2 : Option Addr) (m2 cc2 : Nat) (F2 : Nat → Sa) (hA2 : SActs w A2 m2 F2) :
  Calls Tryz.prog 4 #[.agg #[.slice A m cc, .int .u8 (arm : Nat), .slice cr.A cr.m cr.c, .int .i64 cr.torn, .int .i64 cr.bytes, .slice A2 m2 cc2]] w fun e w' => e = .returned (.bool true) ∧ Below w.heap.size w w' := by
 obtain ⟨qb, hqb⟩ : ∃ q, w.heap.size = q := ⟨_, rfl⟩
 have B1 := Blk.new w 40 #[.slice A m cc, .int .u8 (arm : Nat), .slice cr.A cr.m cr.c, .int .i64 cr.torn, .int .i64 cr.bytes, .slice A2 m2 cc2]
 have b1 := Rt.belowAlloc (Below.refl w.heap.size w) (.cells #[.slice A m cc, .int .u8 (arm : Nat), .slice cr.A cr.m cr.c, .int .i64 cr.torn, .int .i64 cr.bytes, .slice A2 m2 cc2] 40)
 obtain ⟨w1, hw1⟩ : ∃ w1, w.alloc (.cells #[.slice A m cc, .int .u8 (arm : Nat), .slice cr.A cr.m cr.c, .int .i64 cr.torn, .int .i64 cr.bytes, .slice A2 m2 cc2] 40) = w1 := ⟨_, rfl⟩
 rw [hw1, hqb] at B1
 rw [hw1] at b1
 have HC1 := Lib.hid (fun (W : World) (hW : Below w1.heap.size w1 W) => (show (fun W' => W'.cell? ⟨qb, 0, none⟩ = some (.slice A m cc) ∧ W'.cell? ⟨qb, 1, none⟩ = some (.int .u8 (arm : Nat)) ∧ W'.cell? ⟨qb, 2, none⟩ = some (.slice cr.A cr.m cr.c) ∧ W'.cell? ⟨qb, 3, none⟩ = some (.int .i64 cr.torn) ∧ W'.cell? ⟨qb, 4, none⟩ = some (.int .i64 cr.bytes) ∧ W'.cell? ⟨qb, 5, none⟩ = some (.slice A2 m2 cc2)) W from
  have B := B1.below hW B1.lt
  ⟨B.cell_some (i := 0) rfl, B.cell_some (i := 1) rfl, B.cell_some (i := 2) rfl, B.cell_some (i := 3) rfl, B.cell_some (i := 4) rfl, B.cell_some (i := 5) rfl⟩))
 have HB1 := Lib.hid b1
 have HQ := Lib.hid hqb
 clear B1 b1
 go_enter Tryz.func4, Tryz.ntmps4
 go_wp2_with fail
 clear hw1 hqb
 have O1 := Lib.hid (Below.refl w1.heap.size w1).drew
 refine wp_region_held_drew (S := fun W' => W'.cell? ⟨qb, 0, none⟩ = some (.slice A m cc) ∧ W'.cell? ⟨qb, 1, none⟩ = some (.int .u8 (arm : Nat)) ∧ W'.cell? ⟨qb, 2, none⟩ = some (.slice cr.A cr.m cr.c) ∧ W'.cell? ⟨qb, 3, none⟩ = some (.int .i64 cr.torn) ∧ W'.cell? ⟨qb, 4, none⟩ = some (.int .i64 cr.bytes) ∧ W'.cell? ⟨qb, 5, none⟩ = some (.slice A2 m2 cc2)) (by kernel_rfl) (HC1.out _ O1.out) (fun hHeld => ?_)
 refine tkf (i := 0) (oi := ⟨some 13, _, _, _, _, _⟩) (v := ?_) rfl (by kernel_rfl) (fun _ _ _ h => h) (by assumption) ?_ ?_
 rotate_left
 ·(intro w hSw; (try dsimp only at hSw); go_simp; (try (with_reducible rfl)))
 try simp only [Act.put, List.setIfInBounds_toArray, List.set_cons_zero, List.set_cons_succ]
 refine tkf (i := 1) (oi := ⟨some 14, _, _, _, _, _⟩) (v := ?_) rfl (by kernel_rfl) (fun _ _ _ h => h) (by assumption) ?_ ?_
 rotate_left
 ·(intro w hSw; (try dsimp only at hSw); go_simp; (try (with_reducible rfl)))
 try simp only [Act.put, List.setIfInBounds_toArray, List.set_cons_zero, List.set_cons_succ]
 refine tkf (i := 2) (oi := ⟨some 15, _, _, _, _, _⟩) (v := ?_) rfl (by kernel_rfl) (fun _ _ _ h => h) (by assumption) ?_ ?_
 rotate_left
 ·(intro w hSw; (try dsimp only at hSw); go_simp; (try (with_reducible rfl)))
 try simp only [Act.put, List.setIfInBounds_toArray, List.set_cons_zero, List.set_cons_succ]
 refine tkf (i := 3) (oi := ⟨some 16, _, _, _, _, _⟩) (v := ?_) rfl (by kernel_rfl) (fun _ _ _ h => h) (by assumption) ?_ ?_
 rotate_left
 ·(intro w hSw; (try dsimp only at hSw); go_simp; (try (with_reducible rfl)))
 try simp only [Act.put, List.setIfInBounds_toArray, List.set_cons_zero, List.set_cons_succ]
 refine tkf (i := 4) (oi := ⟨some 17, _, _, _, _, _⟩) (v := ?_) rfl (by kernel_rfl) (fun _ _ _ h => h) (by assumption) ?_ ?_
 rotate_left
 ·(intro w hSw; (try dsimp only at hSw); go_simp; (try (with_reducible rfl)))
 try simp only [Act.put, List.setIfInBounds_toArray, List.set_cons_zero, List.set_cons_succ]
 refine tkf (i := 5) (oi := ⟨some 18, _, _, _, _, _⟩) (v := ?_) rfl (by kernel_rfl) (fun _ _ _ h => h) (by assumption) ?_ ?_
 rotate_left
 ·(intro w hSw; (try dsimp only at hSw); go_simp; (try (with_reducible rfl)))
 try simp only [Act.put, List.setIfInBounds_toArray, List.set_cons_zero, List.set_cons_succ]
 refine tkf (i := 6) (oi := ⟨some 19, _, _, _, _, _⟩) (v := ?_) rfl (by kernel_rfl) (fun _ _ _ h => h) (by assumption) ?_ ?_
 rotate_left
 ·(intro w hSw; (try dsimp only at hSw); go_simp; (try (with_reducible rfl)))
 try simp only [Act.put, List.setIfInBounds_toArray, List.set_cons_zero, List.set_cons_succ]
 refine tkf (i := 7) (oi := ⟨some 20, _, _, _, _, _⟩) (v := ?_) rfl (by kernel_rfl) (fun _ _ _ h => h) (by assumption) ?_ ?_
 rotate_left
 ·(intro w hSw; (try dsimp only at hSw); go_simp; (try (with_reducible rfl)))
 try simp only [Act.put, List.setIfInBounds_toArray, List.set_cons_zero, List.set_cons_succ]
 refine wpAnyH_ready (rs := [8]) (by kernel_rfl) (by simp) ?_
 refine AllReadyH.cons (o := ⟨some 5, _, _, _, _, _⟩) rfl (fun K hK => ?_) AllReadyH.nil
 go_simp
 refine hK.out _ _ (HC1.out _ (Rt.belowAlloc (Below.refl _ _) _).drew) (fun hHeld => ?_)
 try simp only [Act.put, List.setIfInBounds_toArray, List.set_cons_zero, List.set_cons_succ]
 refine tkf (i := 9) (oi := ⟨some 3, _, _, _, _, _⟩) (v := ?_) rfl (by kernel_rfl) (fun _ _ _ h => h) (by assumption) ?_ ?_
 rotate_left
 ·(intro w hSw; (try dsimp only at hSw); go_simp; (try (with_reducible rfl)))
 try simp only [Act.put, List.setIfInBounds_toArray, List.set_cons_zero, List.set_cons_succ]
 refine tkf (i := 10) (oi := ⟨some 4, _, _, _, _, _⟩) (v := ?_) rfl (by kernel_rfl) (fun _ _ _ h => h) (by assumption) ?_ ?_
 rotate_left
 ·(intro w hSw; (try dsimp only at hSw); go_simp; (try (with_reducible rfl)))
 try simp only [Act.put, List.setIfInBounds_toArray, List.set_cons_zero, List.set_cons_succ]
 refine wpAnyH_ready (rs := [11]) (by kernel_rfl) (by simp) ?_
 refine AllReadyH.cons (o := ⟨none, _, _, _, _, _⟩) rfl (fun K hK => ?_) AllReadyH.nil
 go_simp
 refine hK.out _ _ (HC1.out _ (Rt.belowAlloc (Below.refl _ _) _).drew) (fun hHeld => ?_)
 try simp only [Act.put, List.setIfInBounds_toArray, List.set_cons_zero, List.set_cons_succ]
 refine tkf (i := 12) (oi := ⟨some 6, _, _, _, _, _⟩) (v := ?_) rfl (by kernel_rfl) (fun _ _ _ h => h) (by assumption) ?_ ?_
 rotate_left
 ·(intro w hSw; (try dsimp only at hSw); go_simp; (try (with_reducible rfl)))
 try simp only [Act.put, List.setIfInBounds_toArray, List.set_cons_zero, List.set_cons_succ]
 refine wpAnyH_done (by kernel_rfl) ?_ _
 obtain ⟨zb, hzb⟩ : ∃ z, w1.heap.size = z := ⟨_, rfl⟩
 have Z2 := (Blk.new w1 38 #[.slice cr.A cr.m cr.c, .int .i64 cr.torn, .int .i64 cr.bytes]).drew
 have b2 := (Rt.belowAlloc (Below.refl w1.heap.size w1) (.cells #[.slice cr.A cr.m cr.c, .int .i64 cr.torn, .int .i64 cr.bytes] 38)).drew
 have hsz : w1.heap.size < ((w1.alloc (.cells #[.slice cr.A cr.m cr.c, .int .i64 cr.torn, .int .i64 cr.bytes] 38)).drew).heap.size := Z2.lt
 generalize hw2 : (w1.alloc (.cells #[.slice cr.A cr.m cr.c, .int .i64 cr.torn, .int .i64 cr.bytes] 38)).drew = w2 at *
 clear hw2
 rw [hzb] at Z2 ⊢
 have B2 := Lib.hid (bstep HB1.out b2)
 have HZ := Lib.hid (fun (W : World) (hW : Below w2.heap.size w2 W) => (show W.cell? ⟨zb, 0, none⟩ = some (.slice cr.A cr.m cr.c) ∧ W.cell? ⟨zb, 1, none⟩ = some (.int .i64 cr.torn) ∧ W.cell? ⟨zb, 2, none⟩ = some (.int .i64 cr.bytes) from
  have B := Z2.below hW Z2.lt
  ⟨B.cell_some (i := 0) rfl, B.cell_some (i := 1) rfl, B.cell_some (i := 2) rfl⟩))
 have HA := Lib.hid (fun (W : World) (hb : Below w2.heap.size w2 W) => hA.below (bstep B2.out hb))
 have KC := Lib.hid (fun (W : World) (L : Dk.Loc) (rb K : Nat) (a : St) (nv ov vn : Value) (o2 : List (Option (List UInt8))) (d' : Dk.D) (h : CR w2 W L rb 58 a nv ov vn o2 d' K) => crashed_any h cr (hC.below B2.out) hcm A2 m2 cc2 F2 (hA2.below B2.out))
 have KB := Lib.hid (show Calls Tryz.prog 13 #[.int .i64 14] w2 fun e w' => ∃ x rb c, e = .returned (.tuple #[dp x.L.b, sp x.b, rp rb]) ∧ LS w2 w' x rb 58 c (St.start 14) 0 1 true from begun14_any w2 14 (by omega) (by omega))
 have KA := Lib.hid awake14
 have KS := Lib.hid short14_any
 have KD := Lib.hid (fun (W : World) (L : Dk.Loc) (b rb K : Nat) (h : CS w2 W L b rb 58 K) => h.down)
 have KM := Lib.hid (fun (W : World) (L : Dk.Loc) (b rb K : Nat) (h : CS w2 W L b rb 58 K) => h.arm)
 have KN := Lib.hid (fun (W : World) (L : Dk.Loc) (b rb K : Nat) (h : CS w2 W L b rb 58 K) => h.next)
 have KP := Lib.hid (fun (W : World) (L : Dk.Loc) (b rb K : Nat) (v : Value) (h : CN w2 W L b rb 58 K v) => h.part)
 have HFIN := Lib.hid (fun (W : World) (h : Below w2.heap.size w2 W) => bstep B2.out h)
 obtain ⟨r, hr⟩ : ∃ r : Nat, arm % 30 = r := ⟨_, rfl⟩
 obtain ⟨be, hbe⟩ : ∃ be : Nat, arm / 30 + 1 = be := ⟨_, rfl⟩
 have hrI : (arm : Int) % 30 = (r : Int) := by omega
 have e1 : IntKind.u8.wrap (r : Int) = (r : Int) := IntWalk.u8_in _ (by omega)
 have e2 : IntKind.i64.wrap (r : Int) = (r : Int) := IntWalk.i64_in _ (by omega)
 have e3 : IntKind.i64.wrap (arm : Int) = (arm : Int) := IntWalk.i64_in _ (by omega)
 have e6 : IntKind.i64.wrap ((arm : Int) / 30) = ((arm : Int) / 30) := IntWalk.i64_in _ (by omega)
 have e4 : IntKind.i64.wrap (((arm : Int) / 30) + 1) = (be : Int) := by rw [show (arm : Int) / 30 + 1 = (be : Int) by omega]; exact IntWalk.i64_in _ (by omega)
 have hβ := Lib.hid (show 1 ≤ (be : Int) ∧ (be : Int) ≤ 1000 from ⟨by omega, by omega⟩)
 clear hr hbe
 clear hA hC hA2 b2 Z2 hsz HC1 HB1 O1
 unfold dp sp rp Cr.val at *
 go_wp2_with fail
 refine KB.out.mono ?_
 rintro e w3 ⟨x, rb, c, rfl, S3⟩
 obtain ⟨L, hL⟩ : ∃ L, x.L = L := ⟨_, rfl⟩
 obtain ⟨b, hb⟩ : ∃ b, x.b = b := ⟨_, rfl⟩
 have H3 := Lib.hid (show CS w2 w3 L b rb 58 1 from ⟨x, c, _, _, hL, hb, S3⟩)
 rw [hL, hb]
 clear S3 hL hb
 go_wp2_with fail
 refine (KA.out w3).mono ?_
 rintro e w4 ⟨rfl, hb4⟩
 have H4 := Lib.hid (H3.out.below hb4)
 clear hb4
 go_wp2_with fail
 go_loopw [10] (fun iv wr => ∃ (i : Nat), i ≤ 40 ∧ iv = .int .i64 i ∧ Hid (CS w2 wr L b rb 58 (i + 1))) (fun iv _ => 40 - (intOf iv).toNat)
 case atStart => exact ⟨0, Nat.zero_le _, rfl, H4⟩
 case round =>
  obtain ⟨i, hi, rfl, H⟩ := hrel
  by_cases h1 : i < m
  ·have h1I : (i : Int) < (m : Int) := by omega
   by_cases h2 : i < 40
   ·have h2I : (i : Int) < 40 := by omega
    have HC := Lib.hid (show ∀ W, Below w2.heap.size w2 W → ∃ ad, A = some ad ∧ SaAt W (ad.add (i * 3)) (F i) from fun W hb => HA.out W hb i h1)
    obtain ⟨ad, hAd, _⟩ := HC.out wr H.out.b0
    subst hAd
    have HC := Lib.hid (show ∀ W, Below w2.heap.size w2 W → SaAt W (ad.add (i * 3)) (F i) from fun W hb => by
     obtain ⟨ad', e, h⟩ := HC.out W hb
     injection e with e
     rw [e]; exact h)
    generalize F i = sa at HC
    obtain ⟨kd, l, s⟩ := sa
    have KS2 := Lib.hid (fun (W : World) => KS.out kd l s W _ rfl)
    have ei : IntKind.i64.wrap ((i : Int) + 1) = ((i + 1 : Nat) : Int) := IntWalk.i64_in _ (by omega)
    by_cases hia : i = r
    ·obtain rfl : i = r := hia
     go_wp2_with fail
     refine (KM.out wr L b rb (i + 1) H.out _ hβ.out.1 hβ.out.2).mono ?_
     rintro e wa ⟨z, rfl, ha⟩
     have H := Lib.hid ha
     clear ha
     obtain ⟨c0, c1, c2⟩ := HC.out _ H.out.b0
     dsimp only at c0 c1 c2
     by_cases hs : s.size < 500
     ·rw [show decide (s.size < 500) = true by simpa using hs] at KS2
      have HSZ := Lib.hid hs
      clear hs
      by_cases h9 : kd = 9
      ·subst h9
       go_wp2_with fail
       refine (KS2.out _).mono ?_
       rintro e w5 ⟨rfl, hb5⟩
       have H5 := Lib.hid (H.out.below hb5)
       obtain ⟨d0, d1, d2⟩ := HC.out w5 H5.out.b0
       dsimp only at d0 d1 d2
       clear hb5 c0 c1 c2
       go_wp2_with fail
       have H6 := Lib.hid H5.out.more
       go_roundw
       case rel => exact ⟨i + 1, by omega, by go_num, H6⟩
       case measure => simp [intOf]; omega
      ·have h9b : (kd == 9) = false := by rw [beq_eq_false_iff_ne]; exact h9
       go_wp2_with fail
       refine (KS2.out _).mono ?_
       rintro e w5 ⟨rfl, hb5⟩
       have H5 := Lib.hid (H.out.below hb5)
       obtain ⟨d0, d1, d2⟩ := HC.out w5 H5.out.b0
       dsimp only at d0 d1 d2
       clear hb5 c0 c1 c2
       go_wp2_with fail
       refine (KN.out w5 L b rb _ H5.out).mono ?_
       rintro e w6 ⟨v, rfl, h6⟩
       have H6 := Lib.hid h6
       have KD6 := Lib.hid (KD.out w6 L b rb _ H6.out.cs)
       obtain ⟨f0, f1, f2⟩ := HC.out w6 H6.out.cs.b0
       dsimp only at f0 f1 f2
       clear h6 d0 d1 d2
       go_wp2_with fail
       refine KD6.out.mono ?_
       rintro e w7 ⟨rfl, rfl⟩
       go_wp2_with fail
       refine KD6.out.mono ?_
       rintro e w7 ⟨rfl, rfl⟩
       go_wp2_with fail
       refine (KP.out w6 L b rb _ v H6.out kd l s (by have := HSZ.out; omega) (by omega) h9).mono ?_
       rintro e w8 (⟨rfl, h8⟩ | ⟨rfl, b8, nv, ov, a8, d8, R8, k8, n8⟩)
       ·have H8 := Lib.hid h8
        clear h8 f0 f1 f2
        go_wp2_with fail
        go_roundw
        case rel => exact ⟨i + 1, by omega, by go_num, H8⟩
        case measure => simp [intOf]; omega
       ·obtain ⟨g0, g1, g2⟩ := HC.out w8 b8
        obtain ⟨z0, z1, z2⟩ := HZ.out w8 b8
        dsimp only at g0 g1 g2
        obtain ⟨A3, k3, q3, rfl⟩ : ∃ A k q, ov = .slice A k q := by obtain ⟨A, q, e⟩ := R8.ho.val; exact ⟨A, _, q, e⟩
        have r2 := R8.f2
        clear f0 f1 f2 R8
        by_cases h6k : kd = 6
        ·subst h6k
         have KC8 := Lib.hid (KC.out w8 L rb _ a8 nv _ v _ d8 (k8 (.inl rfl)))
         clear k8 n8 b8
         go_wp2_with fail
         refine KC8.out.mono ?_
         rintro e w9 ⟨rfl, hb9⟩
         have H9 := Lib.hid (HFIN.out _ hb9)
         clear hb9
         go_wp2_with fail
         go_ret
         exact ⟨by first | rfl | simp, H9.out⟩
        ·have h6b : (kd != 6) = true := by simpa using h6k
         by_cases h7k : kd = 7
         ·subst h7k
          have KC8 := Lib.hid (KC.out w8 L rb _ a8 nv _ v _ d8 (k8 (.inr rfl)))
          clear k8 n8 b8
          go_wp2_with fail
          refine KC8.out.mono ?_
          rintro e w9 ⟨rfl, hb9⟩
          have H9 := Lib.hid (HFIN.out _ hb9)
          clear hb9
          go_wp2_with fail
          go_ret
          exact ⟨by first | rfl | simp, H9.out⟩
         ·have h7b : (kd != 7) = true := by simpa using h7k
          have KC8 := Lib.hid (KC.out w8 L rb _ a8 nv _ _ _ d8 (n8 (fun h => h.elim h6k h7k)))
          clear k8 n8 b8
          go_wp2_with fail
          refine KC8.out.mono ?_
          rintro e w9 ⟨rfl, hb9⟩
          have H9 := Lib.hid (HFIN.out _ hb9)
          clear hb9
          go_wp2_with fail
          go_ret
          exact ⟨by first | rfl | simp, H9.out⟩
     ·rw [show decide (s.size < 500) = false by simpa using hs] at KS2
      clear hs
      go_wp2_with fail
      refine (KS2.out _).mono ?_
      rintro e w5 ⟨rfl, hb5⟩
      have H5 := Lib.hid (H.out.below hb5).more
      clear hb5 c0 c1 c2
      go_wp2_with fail
      go_roundw
      case rel => exact ⟨i + 1, by omega, by go_num, H5⟩
      case measure => simp [intOf]; omega
    ·have hiI : ((i : Int) == (r : Int)) = false := by rw [beq_eq_false_iff_ne]; omega
     obtain ⟨wa, hwa⟩ : ∃ wa, wr = wa := ⟨_, rfl⟩
     subst hwa
     clear hia
     obtain ⟨c0, c1, c2⟩ := HC.out _ H.out.b0
     dsimp only at c0 c1 c2
     by_cases hs : s.size < 500
     ·rw [show decide (s.size < 500) = true by simpa using hs] at KS2
      have HSZ := Lib.hid hs
      clear hs
      by_cases h9 : kd = 9
      ·subst h9
       go_wp2_with fail
       refine (KS2.out _).mono ?_
       rintro e w5 ⟨rfl, hb5⟩
       have H5 := Lib.hid (H.out.below hb5)
       obtain ⟨d0, d1, d2⟩ := HC.out w5 H5.out.b0
       dsimp only at d0 d1 d2
       clear hb5 c0 c1 c2
       go_wp2_with fail
       have H6 := Lib.hid H5.out.more
       go_roundw
       case rel => exact ⟨i + 1, by omega, by go_num, H6⟩
       case measure => simp [intOf]; omega
      ·have h9b : (kd == 9) = false := by rw [beq_eq_false_iff_ne]; exact h9
       go_wp2_with fail
       refine (KS2.out _).mono ?_
       rintro e w5 ⟨rfl, hb5⟩
       have H5 := Lib.hid (H.out.below hb5)
       obtain ⟨d0, d1, d2⟩ := HC.out w5 H5.out.b0
       dsimp only at d0 d1 d2
       clear hb5 c0 c1 c2
       go_wp2_with fail
       refine (KN.out w5 L b rb _ H5.out).mono ?_
       rintro e w6 ⟨v, rfl, h6⟩
       have H6 := Lib.hid h6
       have KD6 := Lib.hid (KD.out w6 L b rb _ H6.out.cs)
       obtain ⟨f0, f1, f2⟩ := HC.out w6 H6.out.cs.b0
       dsimp only at f0 f1 f2
       clear h6 d0 d1 d2
       go_wp2_with fail
       refine KD6.out.mono ?_
       rintro e w7 ⟨rfl, rfl⟩
       go_wp2_with fail
       refine KD6.out.mono ?_
       rintro e w7 ⟨rfl, rfl⟩
       go_wp2_with fail
       refine (KP.out w6 L b rb _ v H6.out kd l s (by have := HSZ.out; omega) (by omega) h9).mono ?_
       rintro e w8 (⟨rfl, h8⟩ | ⟨rfl, b8, nv, ov, a8, d8, R8, k8, n8⟩)
       ·have H8 := Lib.hid h8
        clear h8 f0 f1 f2
        go_wp2_with fail
        go_roundw
        case rel => exact ⟨i + 1, by omega, by go_num, H8⟩
        case measure => simp [intOf]; omega
       ·obtain ⟨g0, g1, g2⟩ := HC.out w8 b8
        obtain ⟨z0, z1, z2⟩ := HZ.out w8 b8
        dsimp only at g0 g1 g2
        obtain ⟨A3, k3, q3, rfl⟩ : ∃ A k q, ov = .slice A k q := by obtain ⟨A, q, e⟩ := R8.ho.val; exact ⟨A, _, q, e⟩
        have r2 := R8.f2
        clear f0 f1 f2 R8
        by_cases h6k : kd = 6
        ·subst h6k
         have KC8 := Lib.hid (KC.out w8 L rb _ a8 nv _ v _ d8 (k8 (.inl rfl)))
         clear k8 n8 b8
         go_wp2_with fail
         refine KC8.out.mono ?_
         rintro e w9 ⟨rfl, hb9⟩
         have H9 := Lib.hid (HFIN.out _ hb9)
         clear hb9
         go_wp2_with fail
         go_ret
         exact ⟨by first | rfl | simp, H9.out⟩
        ·have h6b : (kd != 6) = true := by simpa using h6k
         by_cases h7k : kd = 7
         ·subst h7k
          have KC8 := Lib.hid (KC.out w8 L rb _ a8 nv _ v _ d8 (k8 (.inr rfl)))
          clear k8 n8 b8
          go_wp2_with fail
          refine KC8.out.mono ?_
          rintro e w9 ⟨rfl, hb9⟩
          have H9 := Lib.hid (HFIN.out _ hb9)
          clear hb9
          go_wp2_with fail
          go_ret
          exact ⟨by first | rfl | simp, H9.out⟩
         ·have h7b : (kd != 7) = true := by simpa using h7k
          have KC8 := Lib.hid (KC.out w8 L rb _ a8 nv _ _ _ d8 (n8 (fun h => h.elim h6k h7k)))
          clear k8 n8 b8
          go_wp2_with fail
          refine KC8.out.mono ?_
          rintro e w9 ⟨rfl, hb9⟩
          have H9 := Lib.hid (HFIN.out _ hb9)
          clear hb9
          go_wp2_with fail
          go_ret
          exact ⟨by first | rfl | simp, H9.out⟩
     ·rw [show decide (s.size < 500) = false by simpa using hs] at KS2
      clear hs
      go_wp2_with fail
      refine (KS2.out _).mono ?_
      rintro e w5 ⟨rfl, hb5⟩
      have H5 := Lib.hid (H.out.below hb5).more
      clear hb5 c0 c1 c2
      go_wp2_with fail
      go_roundw
      case rel => exact ⟨i + 1, by omega, by go_num, H5⟩
      case measure => simp [intOf]; omega
   ·have h2I : ¬ (i : Int) < 40 := by omega
    obtain ⟨nv, ov, a8, d8, R8, C8⟩ := H.out.last (by omega)
    obtain ⟨A3, k3, q3, rfl⟩ : ∃ A k q, ov = .slice A k q := by obtain ⟨A, q, e⟩ := R8.ho.val; exact ⟨A, _, q, e⟩
    have OR := (Below.refl wr.heap.size wr).drew
    have r2 := (R8.below OR).f2
    obtain ⟨z0, z1, z2⟩ := HZ.out wr.drew (bstep H.out.b0 OR)
    have KC8 := Lib.hid (KC.out wr.drew L rb _ a8 nv _ _ _ d8 (C8.below OR))
    clear C8 R8 OR
    go_wp2_with fail
    refine wp_region_held_drew (S := fun _ => True) (by kernel_rfl) (trivial) (fun hHeld => ?_)
    refine tkf (i := 0) (oi := ⟨some 111, _, _, _, _, _⟩) (v := ?_) rfl (by kernel_rfl) (fun _ _ _ h => h) (by assumption) ?_ ?_
    rotate_left
    ·(intro w hSw; (try dsimp only at hSw); go_simp; (try (with_reducible rfl)))
    try simp only [Act.put, List.setIfInBounds_toArray, List.set_cons_zero, List.set_cons_succ]
    refine tkf (i := 1) (oi := ⟨some 112, _, _, _, _, _⟩) (v := ?_) rfl (by kernel_rfl) (fun _ _ _ h => h) (by assumption) ?_ ?_
    rotate_left
    ·(intro w hSw; (try dsimp only at hSw); go_simp; (try (with_reducible rfl)))
    try simp only [Act.put, List.setIfInBounds_toArray, List.set_cons_zero, List.set_cons_succ]
    refine tkf (i := 2) (oi := ⟨some 113, _, _, _, _, _⟩) (v := ?_) rfl (by kernel_rfl) (fun _ _ _ h => h) (by assumption) ?_ ?_
    rotate_left
    ·(intro w hSw; (try dsimp only at hSw); go_simp; (try (with_reducible rfl)))
    try simp only [Act.put, List.setIfInBounds_toArray, List.set_cons_zero, List.set_cons_succ]
    refine tkf (i := 3) (oi := ⟨some 114, _, _, _, _, _⟩) (v := ?_) rfl (by kernel_rfl) (fun _ _ _ h => h) (by assumption) ?_ ?_
    rotate_left
    ·(intro w hSw; (try dsimp only at hSw); go_simp; (try (with_reducible rfl)))
    try simp only [Act.put, List.setIfInBounds_toArray, List.set_cons_zero, List.set_cons_succ]
    refine tkf (i := 4) (oi := ⟨some 115, _, _, _, _, _⟩) (v := ?_) rfl (by kernel_rfl) (fun _ _ _ h => h) (by assumption) ?_ ?_
    rotate_left
    ·(intro w hSw; (try dsimp only at hSw); go_simp; (try (with_reducible rfl)))
    try simp only [Act.put, List.setIfInBounds_toArray, List.set_cons_zero, List.set_cons_succ]
    refine tkf (i := 7) (oi := ⟨some 118, _, _, _, _, _⟩) (v := ?_) rfl (by kernel_rfl) (fun _ _ _ h => h) (by assumption) ?_ ?_
    rotate_left
    ·(intro w hSw; (try dsimp only at hSw); go_simp; (try (with_reducible rfl)))
    try simp only [Act.put, List.setIfInBounds_toArray, List.set_cons_zero, List.set_cons_succ]
    refine wpAnyH_ready (rs := [5, 6]) (by kernel_rfl) (by simp) ?_
    refine AllReadyH.cons (o := ⟨some 116, _, _, _, _, _⟩) rfl (fun K hK => ?_) (AllReadyH.cons (o := ⟨some 117, _, _, _, _, _⟩) rfl (fun K hK => ?_) AllReadyH.nil)
    ·skip
     go_simp
     refine hK.out _ _ (trivial) (fun hHeld => ?_)
     try simp only [Act.put, List.setIfInBounds_toArray, List.set_cons_zero, List.set_cons_succ]
     refine wpAnyH_ready (rs := [6]) (by kernel_rfl) (by simp) ?_
     refine AllReadyH.cons (o := ⟨some 117, _, _, _, _, _⟩) rfl (fun K hK => ?_) AllReadyH.nil
     go_simp
     refine hK.out _ _ (trivial) (fun hHeld => ?_)
     try simp only [Act.put, List.setIfInBounds_toArray, List.set_cons_zero, List.set_cons_succ]
     refine wpAnyH_ready (rs := [8]) (by kernel_rfl) (by simp) ?_
     refine AllReadyH.cons (o := ⟨some 119, _, _, _, _, _⟩) rfl (fun K hK => ?_) AllReadyH.nil
     go_simp
     go_at_call 22
     refine KC8.out.mono ?_
     rintro e w9 ⟨rfl, hb9⟩
     have H9 := Lib.hid (HFIN.out _ hb9)
     go_simp
     refine hK.out _ _ (trivial) (fun hHeld => ?_)
     try simp only [Act.put, List.setIfInBounds_toArray, List.set_cons_zero, List.set_cons_succ]
     refine tkf (i := 9) (oi := ⟨some 2, _, _, _, _, _⟩) (v := ?_) rfl (by kernel_rfl) (fun _ _ _ h => h) (by assumption) ?_ ?_
     rotate_left
     ·(intro w hSw; (try dsimp only at hSw); go_simp; (try (with_reducible rfl)))
     try simp only [Act.put, List.setIfInBounds_toArray, List.set_cons_zero, List.set_cons_succ]
     refine wpAnyH_done (by kernel_rfl) ?_ _
     go_wp2_with fail
     go_ret
     exact ⟨by first | rfl | simp, H9.out⟩
    ·skip
     go_simp
     refine hK.out _ _ (trivial) (fun hHeld => ?_)
     try simp only [Act.put, List.setIfInBounds_toArray, List.set_cons_zero, List.set_cons_succ]
     refine wpAnyH_ready (rs := [5]) (by kernel_rfl) (by simp) ?_
     refine AllReadyH.cons (o := ⟨some 116, _, _, _, _, _⟩) rfl (fun K hK => ?_) AllReadyH.nil
     go_simp
     refine hK.out _ _ (trivial) (fun hHeld => ?_)
     try simp only [Act.put, List.setIfInBounds_toArray, List.set_cons_zero, List.set_cons_succ]
     refine wpAnyH_ready (rs := [8]) (by kernel_rfl) (by simp) ?_
     refine AllReadyH.cons (o := ⟨some 119, _, _, _, _, _⟩) rfl (fun K hK => ?_) AllReadyH.nil
     go_simp
     go_at_call 22
     refine KC8.out.mono ?_
     rintro e w9 ⟨rfl, hb9⟩
     have H9 := Lib.hid (HFIN.out _ hb9)
     go_simp
     refine hK.out _ _ (trivial) (fun hHeld => ?_)
     try simp only [Act.put, List.setIfInBounds_toArray, List.set_cons_zero, List.set_cons_succ]
     refine tkf (i := 9) (oi := ⟨some 2, _, _, _, _, _⟩) (v := ?_) rfl (by kernel_rfl) (fun _ _ _ h => h) (by assumption) ?_ ?_
     rotate_left
     ·(intro w hSw; (try dsimp only at hSw); go_simp; (try (with_reducible rfl)))
     try simp only [Act.put, List.setIfInBounds_toArray, List.set_cons_zero, List.set_cons_succ]
     refine wpAnyH_done (by kernel_rfl) ?_ _
     go_wp2_with fail
     go_ret
     exact ⟨by first | rfl | simp, H9.out⟩
  ·have h1I : ¬ (i : Int) < (m : Int) := by omega
   obtain ⟨nv, ov, a8, d8, R8, C8⟩ := H.out.last (by omega)
   obtain ⟨A3, k3, q3, rfl⟩ : ∃ A k q, ov = .slice A k q := by obtain ⟨A, q, e⟩ := R8.ho.val; exact ⟨A, _, q, e⟩
   have OR := (Below.refl wr.heap.size wr).drew
   have r2 := (R8.below OR).f2
   obtain ⟨z0, z1, z2⟩ := HZ.out wr.drew (bstep H.out.b0 OR)
   have KC8 := Lib.hid (KC.out wr.drew L rb _ a8 nv _ _ _ d8 (C8.below OR))
   clear C8 R8 OR
   go_wp2_with fail
   refine wp_region_held_drew (S := fun _ => True) (by kernel_rfl) (trivial) (fun hHeld => ?_)
   refine tkf (i := 0) (oi := ⟨some 111, _, _, _, _, _⟩) (v := ?_) rfl (by kernel_rfl) (fun _ _ _ h => h) (by assumption) ?_ ?_
   rotate_left
   ·(intro w hSw; (try dsimp only at hSw); go_simp; (try (with_reducible rfl)))
   try simp only [Act.put, List.setIfInBounds_toArray, List.set_cons_zero, List.set_cons_succ]
   refine tkf (i := 1) (oi := ⟨some 112, _, _, _, _, _⟩) (v := ?_) rfl (by kernel_rfl) (fun _ _ _ h => h) (by assumption) ?_ ?_
   rotate_left
   ·(intro w hSw; (try dsimp only at hSw); go_simp; (try (with_reducible rfl)))
   try simp only [Act.put, List.setIfInBounds_toArray, List.set_cons_zero, List.set_cons_succ]
   refine tkf (i := 2) (oi := ⟨some 113, _, _, _, _, _⟩) (v := ?_) rfl (by kernel_rfl) (fun _ _ _ h => h) (by assumption) ?_ ?_
   rotate_left
   ·(intro w hSw; (try dsimp only at hSw); go_simp; (try (with_reducible rfl)))
   try simp only [Act.put, List.setIfInBounds_toArray, List.set_cons_zero, List.set_cons_succ]
   refine tkf (i := 3) (oi := ⟨some 114, _, _, _, _, _⟩) (v := ?_) rfl (by kernel_rfl) (fun _ _ _ h => h) (by assumption) ?_ ?_
   rotate_left
   ·(intro w hSw; (try dsimp only at hSw); go_simp; (try (with_reducible rfl)))
   try simp only [Act.put, List.setIfInBounds_toArray, List.set_cons_zero, List.set_cons_succ]
   refine tkf (i := 4) (oi := ⟨some 115, _, _, _, _, _⟩) (v := ?_) rfl (by kernel_rfl) (fun _ _ _ h => h) (by assumption) ?_ ?_
   rotate_left
   ·(intro w hSw; (try dsimp only at hSw); go_simp; (try (with_reducible rfl)))
   try simp only [Act.put, List.setIfInBounds_toArray, List.set_cons_zero, List.set_cons_succ]
   refine tkf (i := 7) (oi := ⟨some 118, _, _, _, _, _⟩) (v := ?_) rfl (by kernel_rfl) (fun _ _ _ h => h) (by assumption) ?_ ?_
   rotate_left
   ·(intro w hSw; (try dsimp only at hSw); go_simp; (try (with_reducible rfl)))
   try simp only [Act.put, List.setIfInBounds_toArray, List.set_cons_zero, List.set_cons_succ]
   refine wpAnyH_ready (rs := [5, 6]) (by kernel_rfl) (by simp) ?_
   refine AllReadyH.cons (o := ⟨some 116, _, _, _, _, _⟩) rfl (fun K hK => ?_) (AllReadyH.cons (o := ⟨some 117, _, _, _, _, _⟩) rfl (fun K hK => ?_) AllReadyH.nil)
   ·skip
    go_simp
    refine hK.out _ _ (trivial) (fun hHeld => ?_)
    try simp only [Act.put, List.setIfInBounds_toArray, List.set_cons_zero, List.set_cons_succ]
    refine wpAnyH_ready (rs := [6]) (by kernel_rfl) (by simp) ?_
    refine AllReadyH.cons (o := ⟨some 117, _, _, _, _, _⟩) rfl (fun K hK => ?_) AllReadyH.nil
    go_simp
    refine hK.out _ _ (trivial) (fun hHeld => ?_)
    try simp only [Act.put, List.setIfInBounds_toArray, List.set_cons_zero, List.set_cons_succ]
    refine wpAnyH_ready (rs := [8]) (by kernel_rfl) (by simp) ?_
    refine AllReadyH.cons (o := ⟨some 119, _, _, _, _, _⟩) rfl (fun K hK => ?_) AllReadyH.nil
    go_simp
    go_at_call 22
    refine KC8.out.mono ?_
    rintro e w9 ⟨rfl, hb9⟩
    have H9 := Lib.hid (HFIN.out _ hb9)
    go_simp
    refine hK.out _ _ (trivial) (fun hHeld => ?_)
    try simp only [Act.put, List.setIfInBounds_toArray, List.set_cons_zero, List.set_cons_succ]
    refine tkf (i := 9) (oi := ⟨some 2, _, _, _, _, _⟩) (v := ?_) rfl (by kernel_rfl) (fun _ _ _ h => h) (by assumption) ?_ ?_
    rotate_left
    ·(intro w hSw; (try dsimp only at hSw); go_simp; (try (with_reducible rfl)))
    try simp only [Act.put, List.setIfInBounds_toArray, List.set_cons_zero, List.set_cons_succ]
    refine wpAnyH_done (by kernel_rfl) ?_ _
    go_wp2_with fail
    go_ret
    exact ⟨by first | rfl | simp, H9.out⟩
   ·skip
    go_simp
    refine hK.out _ _ (trivial) (fun hHeld => ?_)
    try simp only [Act.put, List.setIfInBounds_toArray, List.set_cons_zero, List.set_cons_succ]
    refine wpAnyH_ready (rs := [5]) (by kernel_rfl) (by simp) ?_
    refine AllReadyH.cons (o := ⟨some 116, _, _, _, _, _⟩) rfl (fun K hK => ?_) AllReadyH.nil
    go_simp
    refine hK.out _ _ (trivial) (fun hHeld => ?_)
    try simp only [Act.put, List.setIfInBounds_toArray, List.set_cons_zero, List.set_cons_succ]
    refine wpAnyH_ready (rs := [8]) (by kernel_rfl) (by simp) ?_
    refine AllReadyH.cons (o := ⟨some 119, _, _, _, _, _⟩) rfl (fun K hK => ?_) AllReadyH.nil
    go_simp
    go_at_call 22
    refine KC8.out.mono ?_
    rintro e w9 ⟨rfl, hb9⟩
    have H9 := Lib.hid (HFIN.out _ hb9)
    go_simp
    refine hK.out _ _ (trivial) (fun hHeld => ?_)
    try simp only [Act.put, List.setIfInBounds_toArray, List.set_cons_zero, List.set_cons_succ]
    refine tkf (i := 9) (oi := ⟨some 2, _, _, _, _, _⟩) (v := ?_) rfl (by kernel_rfl) (fun _ _ _ h => h) (by assumption) ?_ ?_
    rotate_left
    ·(intro w hSw; (try dsimp only at hSw); go_simp; (try (with_reducible rfl)))
    try simp only [Act.put, List.setIfInBounds_toArray, List.set_cons_zero, List.set_cons_succ]
    refine wpAnyH_done (by kernel_rfl) ?_ _
    go_wp2_with fail
    go_ret
    exact ⟨by first | rfl | simp, H9.out⟩
end Go.Proofs.YtbelcgjbhpjnpaaGreat.Sh
