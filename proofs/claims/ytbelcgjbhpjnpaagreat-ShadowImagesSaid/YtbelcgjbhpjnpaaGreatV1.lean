/- a store and the document's, side by side: what holds between the calls. -/
import Derived.Test.YtbelcgjbhpjnpaaGreatMc
import Derived.Test.YtbelcgjbhpjnpaaGreatV2
import Derived.Test.YtbelcgjbhpjnpaaGreatW5
import Derived.Test.YtbelcgjbhpjnpaaGreatOa
set_option linter.all false
set_option linter.unusedVariables false
set_option linter.unusedSimpArgs false
namespace Go.Proofs.YtbelcgjbhpjnpaaGreat.Sh
open Go.RowKit Pk Dk Pg
/-- a block of the document's is none of the store's -/
theorem At.alien {w : World} {x : X} {n : Nat} {c : C} (h : At w x n c) {g : Nat} {t : TypeId} {cs : Array Value} (B : Blk w g t cs) (h1 : t ≠ 115) (h2 : t ≠ 181) (h3 : t ≠ 3) (h4 : t ≠ 111) (h5 : t ≠ 140) (h6 : t ≠ 4) (h7 : t ≠ 185) : g ∉ x.fp := by
 intro hg
 simp only [X.fp, List.mem_cons, List.mem_append] at hg
 have hs : ∀ {v : Value} {k : Nat} {l : List Value}, Sl w 3 v k l → g ∉ ownS v := fun S hg => by
  obtain ⟨cs', B'⟩ := sl_int S _ hg
  exact B.ne_ B' h3 rfl
 rcases hg with rfl | rfl | rfl | ((hg | hg) | hg) | hg
 ·exact B.ne_ h.hb h1 rfl
 ·exact B.ne_ h.hm.hb h2 rfl
 ·exact B.ne_ h.hm.hg h3 rfl
 ·simp only [Loc.fp, List.mem_cons, List.not_mem_nil, or_false] at hg
  rcases hg with rfl | rfl | rfl | rfl
  ·exact B.ne_ h.hd.hb h4 rfl
  ·exact B.ne_ h.hd.hN h5 rfl
  ·exact B.ne_ h.hd.hO h5 rfl
  ·exact B.ne_ h.hd.hL h6 rfl
 ·exact hs h.ht hg
 ·exact hs h.ho hg
 ·exact h.hp.far B h3 h7 hg
theorem slc_blk {w : World} {e : TypeId} {z n : Nat} {v : Value} {l : List Value} (h : Slc w e z v n l) : ∀ g ∈ ownB v, ∃ cs, Blk w g e cs := by
 intro g hg
 rcases h.2 with ⟨rfl, _⟩ | ⟨g', cap, rest, rfl, B, _⟩
 ·simp [ownB] at hg
 ·simp [ownB] at hg
  subst hg
  exact ⟨_, B⟩
theorem RAt.blk {w : World} {b : Nat} {nv ov : Value} {a : St} (h : RAt w b nv ov a) : ∀ g ∈ b :: (ownB nv ++ ownB ov), ∃ t cs, (t = 47 ∨ t = 91) ∧ Blk w g t cs := by
 intro g hg
 simp only [List.mem_cons, List.mem_append] at hg
 rcases hg with rfl | hg | hg
 ·exact ⟨_, _, .inl rfl, h.hb⟩
 ·obtain ⟨cs, B⟩ := slc_blk h.hn g hg
  exact ⟨_, cs, .inr rfl, B⟩
 ·obtain ⟨cs, B⟩ := slc_blk h.ho g hg
  exact ⟨_, cs, .inr rfl, B⟩
theorem At.not_doc {w : World} {x : X} {n : Nat} {c : C} {b : Nat} {nv ov : Value} {a : St} (h : At w x n c) (r : RAt w b nv ov a) : ∀ g ∈ b :: (ownB nv ++ ownB ov), g ∉ x.fp := fun g hg => by
 obtain ⟨t, cs, ht, B⟩ := r.blk g hg
 rcases ht with rfl | rfl
 ·exact h.alien B (by decide) (by decide) (by decide) (by decide) (by decide) (by decide) (by decide)
 ·exact h.alien B (by decide) (by decide) (by decide) (by decide) (by decide) (by decide) (by decide)
/-- in the midst of a call of both -/
structure Mid (w1 : World) (x x' : X) (rb n : Nat) (c : C) (nv ov : Value) (a : St) (B : Nat) (W : World) : Prop where
 l : x'.L = x.L
 at_ : At W x' n c
 rt : RAt W rb nv ov a
 o : Only (rb :: x.fp) w1 W
 f : ∀ g ∈ x'.fp, g ∈ x.fp ∨ w1.heap.size ≤ g
 fr : ∀ g ∈ rb :: (ownB nv ++ ownB ov), B ≤ g
 b1 : B ≤ w1.heap.size
section
variable {w1 : World} {x x' : X} {rb n : Nat} {c : C} {nv ov : Value} {a : St} {B : Nat} {W W' : World}
theorem Mid.below (h : Mid w1 x x' rb n c nv ov a B W) (hb : Below W.heap.size W W') : Mid w1 x x' rb n c nv ov a B W' := ⟨h.l, h.at_.below hb, h.rt.below hb, h.o.trans (.of_below hb), h.f, h.fr, h.b1⟩
theorem Mid.prog (h : Mid w1 x x' rb n c nv ov a B W) {c' : C} (p : Post W W' x' n c') : ∃ x2, x2.b = x'.b ∧ Mid w1 x x2 rb n c' nv ov a B W' := by
 obtain ⟨x2, e1, e2, A2, o2, f2⟩ := p
 have hn := h.at_.not_doc h.rt
 exact ⟨x2, e1, e2.trans h.l, A2, h.rt.only o2 hn, h.o.trans_of o2 (fun g hg hlt => (h.f g hg).elim (fun h => List.mem_cons_of_mem _ h) (fun hge => by omega)), fun g hg => (f2 g hg).elim (h.f g) (fun hge => .inr (Nat.le_trans h.o.size hge)), h.fr, h.b1⟩
theorem Mid.doc (h : Mid w1 x x' rb n c nv ov a B W) {a' : St} (p : RTo W W' rb nv ov a') : ∃ nv' ov', Mid w1 x x' rb n c nv' ov' a' B W' := by
 obtain ⟨nv', ov', R2, o2, f2⟩ := p
 have hn := h.at_.not_doc h.rt
 exact ⟨nv', ov', h.l, h.at_.only o2 (fun g hg hm => hn rb (List.mem_cons_self ..) (by rw [← List.mem_singleton.1 hm]; exact hg)), R2, h.o.trans (o2.mono (fun g hg _ => by rw [List.mem_singleton.1 hg]; exact List.mem_cons_self ..)), h.f, fun g hg => (f2 g hg).elim (h.fr g) (fun hge => by have := h.o.size; have := h.b1; omega), h.b1⟩
theorem Mid.act (h : Mid w1 x x' rb n c nv ov a B W) {q : Nat} {kd l : Int} {s : ByteArray} (hA : ActAt w1 q kd l s) (hq : q ∉ rb :: x.fp) : ActAt W q kd l s := Blk.only hA h.o hq
end
/-- a store and the document's, between two calls: the store's disk is armed for a -/
structure LS (w0 w : World) (x : X) (rb n : Nat) (c : C) (a : St) (α : Int) (K : Nat) (tw : Bool) : Prop where
 at_ : At w x n (c.armed α)
 rt : ∃ nv ov, RAt w rb nv ov a ∧ ∀ g ∈ rb :: (ownB nv ++ ownB ov), w0.heap.size ≤ g
 b0 : Below w0.heap.size w0 w
 fr : ∀ g ∈ x.fp, w0.heap.size ≤ g
 g : Good c n
 R : Rooted c.d n c.ep c.slot c.old c.parts
 T : tw = true → Twin c.d c.slot c.ep
 h0 : α = 0 ∨ tw = true
 e : ∃ k, a = (c.absF n).pad k
 al : 0 ≤ α ∧ α ≤ 1000
 bc : c.d.calls ≤ 40 * K
 be : c.ep ≤ K
theorem LS.below {w0 w w' : World} {x : X} {rb n : Nat} {c : C} {a : St} {α : Int} {K : Nat} {tw : Bool} (h : LS w0 w x rb n c a α K tw) (hb : Below w.heap.size w w') : LS w0 w' x rb n c a α K tw := by
 obtain ⟨nv, ov, R, fr⟩ := h.rt
 exact ⟨h.at_.below hb, ⟨nv, ov, R.below hb, fr⟩, bstep h.b0 hb, h.fr, h.g, h.R, h.T, h.h0, h.e, h.al, h.bc, h.be⟩
theorem LS.room {w0 w : World} {x : X} {rb n : Nat} {c : C} {a : St} {α : Int} {K : Nat} {tw : Bool} (h : LS w0 w x rb n c a α K tw) : a.fresh + a.kept ≤ a.many := by
 obtain ⟨k, e⟩ := h.e
 rw [e, pad_fresh, pad_kept]
 exact (free_count h.g).2
/-- from the midst to the end -/
theorem LS.of {w0 w w1 : World} {x x' : X} {rb n : Nat} {c c' : C} {a a' : St} {α α' : Int} {K K' : Nat} {tw tw' : Bool} (h : LS w0 w x rb n c a α K tw) (hb : Below w.heap.size w w1) {nv ov : Value} {W : World} (m : Mid w1 x x' rb n (c'.armed α') nv ov a' w0.heap.size W) (g : Good c' n) (R : Rooted c'.d n c'.ep c'.slot c'.old c'.parts) (T : tw' = true → Twin c'.d c'.slot c'.ep) (h0 : α' = 0 ∨ tw' = true) (e : ∃ k, a' = (c'.absF n).pad k) (al : 0 ≤ α' ∧ α' ≤ 1000) (bc : c'.d.calls ≤ 40 * K') (be : c'.ep ≤ K') : LS w0 W x' rb n c' a' α' K' tw' := by
 obtain ⟨nv0, ov0, R0, fr0⟩ := h.rt
 have hfr : ∀ g ∈ rb :: x.fp, w0.heap.size ≤ g := fun g hg => (List.mem_cons.1 hg).elim (fun e => by rw [e]; exact fr0 rb (List.mem_cons_self ..)) (h.fr g)
 exact ⟨m.at_, ⟨nv, ov, m.rt, m.fr⟩, (bstep h.b0 hb).trans (m.o.below_of (bstep h.b0 hb).size hfr), fun g hg => (m.f g hg).elim (h.fr g) (fun hge => Nat.le_trans (bstep h.b0 hb).size hge), g, R, T, h0, e, al, bc, be⟩
theorem LS.start {w0 w w1 : World} {x : X} {rb n : Nat} {c : C} {a : St} {α : Int} {K : Nat} {tw : Bool} (h : LS w0 w x rb n c a α K tw) (hb : Below w.heap.size w w1) : ∃ nv ov, Mid w1 x x rb n (c.armed α) nv ov a w0.heap.size w1 := by
 obtain ⟨nv, ov, R, fr⟩ := h.rt
 exact ⟨nv, ov, rfl, h.at_.below hb, R.below hb, Only.refl _ _, fun g hg => .inl hg, fr, (bstep h.b0 hb).size⟩
/-- a call of both, done: what a crash leaves of a disk that went down -/
def Gone (c : C) (n : Nat) (kd : Int) (d' : D) : Prop := d'.Ok n ∧ d'.down = true ∧ d'.calls ≤ c.d.calls + 40 ∧ ∀ cr : Cr, (∃ sl parts old, OnDisk (d'.crashF cr n) n c.ep sl old parts (c.absF n).old) ∨ ((kd = 6 ∨ kd = 7) ∧ ∃ sl parts old, OnDisk (d'.crashF cr n) n (c.ep + 1) sl old parts (c.absF n).nextF)
def DoneR (w0 w : World) (x : X) (rb n : Nat) (c : C) (α : Int) (K : Nat) (tw : Bool) (kd : Int) (e : Ending) (W : World) : Prop :=
 (∃ x' c' a' α', x'.L = x.L ∧ (kd ≠ 9 → x'.b = x.b) ∧ α' ≤ α ∧ e = .returned (.tuple #[sp x'.b, .bool true]) ∧ LS w0 W x' rb n c' a' α' (K + 1) tw ∧ Only (rb :: x.fp) w W ∧ ∀ g ∈ x'.fp, g ∈ x.fp ∨ w.heap.size ≤ g) ∨
 (1 ≤ α ∧ ∃ b' β d', e = .returned (.tuple #[sp b', .bool β]) ∧ DiskAt W x.L n d' ∧ Only (rb :: x.fp) w W ∧ Gone c n kd d')
theorem fresh_bd (c : C) (n : Nat) (p : List UInt8) (h : c.d.armed ≤ 9223372036854775807) : (c.freshF n p).1.d.calls ≤ c.d.calls + 4 := by
 unfold C.freshF
 split
 ·show c.d.calls ≤ _; omega
 ·split
  ·exact (pwrite_bd _ _ _ _ _ _ h).1
  ·exact (pwrite_bd _ _ _ _ _ _ h).1
theorem new_bd (c : C) (n : Nat) (p : List UInt8) (h : c.d.armed ≤ 9223372036854775807) : (c.newF n p).1.d.calls ≤ c.d.calls + 4 := by
 have := fresh_bd c n p h
 unfold C.newF
 split
 ·show c.d.calls ≤ _; omega
 ·split
  ·show c.d.calls ≤ _; omega
  ·split
   ·show c.d.calls ≤ _; omega
   ·split
    ·exact this
    ·exact this
theorem write_bd (c : C) (n : Nat) (l : Int) (p : List UInt8) (h : c.d.armed ≤ 9223372036854775807) : (c.writeF n l p).1.d.calls ≤ c.d.calls + 4 := by
 have := fresh_bd c n p h
 unfold C.writeF
 split
 ·show c.d.calls ≤ _; omega
 ·split
  ·show c.d.calls ≤ _; omega
  ·split
   ·show c.d.calls ≤ _; omega
   ·split
    ·exact (pwrite_bd _ _ _ _ _ _ h).1
    ·split
     ·exact this
     ·exact this
theorem layF_bd (c : C) (n : Nat) (P : List Nat) (h : c.d.armed ≤ 9223372036854775807) : (c.layF n P).1.calls ≤ c.d.calls + 4 * P.length + 3 := by
 obtain ⟨h1, h2⟩ := layP_bd c n (Rt.natI P) h P.length
 obtain ⟨s1, s2⟩ := wsync_bd _ h2
 obtain ⟨r1, r2⟩ := wwrite_bd _ n (1 - c.slot) (Rt.rootL (c.ep + 1) c.table.length P) s2
 obtain ⟨v1, v2⟩ := wsync_bd _ r2
 unfold C.layF
 split
 ·omega
 ·split
  ·omega
  ·split
   ·omega
   ·omega
theorem commit_bd (c : C) (n : Nat) (h : c.d.armed ≤ 9223372036854775807) (tl : c.table.length ≤ 512) : (c.commitF n).1.d.calls ≤ c.d.calls + 40 := by
 have hk : needT c.trimF.table.length ≤ 5 := by
  have : c.trimF.table.length ≤ 512 := by
   show (c.table.take _).length ≤ 512
   rw [List.length_take]; omega
  unfold needT; omega
 have hb := layF_bd ({ c.trimF with m := (takeN c.m (needT c.trimF.table.length)).1 } : C) n ((takeN c.m (needT c.trimF.table.length)).2.map Int.toNat) h
 rw [List.length_map, takeN_len] at hb
 have hb : (({ c.trimF with m := (takeN c.m (needT c.trimF.table.length)).1 } : C).layF n ((takeN c.m (needT c.trimF.table.length)).2.map Int.toNat)).1.calls ≤ c.d.calls + 4 * (needT c.trimF.table.length : Nat) + 3 := hb
 unfold C.commitF
 split
 ·show c.d.calls ≤ _; omega
 ·split
  ·show c.d.calls ≤ _; omega
  ·split
   ·show (({ c.trimF with m := (takeN c.m (needT c.trimF.table.length)).1 } : C).layF n ((takeN c.m (needT c.trimF.table.length)).2.map Int.toNat)).1.calls ≤ _
    omega
   ·show (({ c.trimF with m := (takeN c.m (needT c.trimF.table.length)).1 } : C).layF n ((takeN c.m (needT c.trimF.table.length)).2.map Int.toNat)).1.calls ≤ _
    omega
theorem armed_zero {c : C} (h : c.d.armed = 0) : c.armed 0 = c := by
 unfold C.armed C.on arm
 rw [← h]
theorem commit_sim0 {c : C} {n : Nat} (g : Good c n) (R : Rooted c.d n c.ep c.slot c.old c.parts) (he : c.ep < 1099511627775) (tl : c.table.length ≤ 512) : (c.armed 0).commitF n = ((c.commitF n).1.armed 0, (c.commitF n).2) := by
 rw [armed_zero g.arm]
 by_cases hf : (c.absF n).free < needT (c.absF n).nextF.length
 ·rw [commit_full g hf, armed_zero (trim_good g).1.arm]
 ·obtain ⟨c', d1, d2, _⟩ := commit_good g R he tl hf
  rw [d1, armed_zero d2.arm]
end Go.Proofs.YtbelcgjbhpjnpaaGreat.Sh
