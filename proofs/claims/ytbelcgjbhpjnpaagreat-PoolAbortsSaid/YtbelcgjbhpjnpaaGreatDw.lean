/- a pool and the document's, side by side, while others' blocks are not touched. -/
import Derived.Test.YtbelcgjbhpjnpaaGreatDo
set_option linter.all false
set_option linter.unusedVariables false
set_option linter.unusedSimpArgs false
namespace Go.Proofs.YtbelcgjbhpjnpaaGreat.Sh
open Go.RowKit Pk Dk Pg
/-- a pool and the document's, between two calls -/
structure PXG (gs : List Nat) (wb w0 w : World) (pq xq rs n : Nat) (qp qx : QS) (K : Nat) : Prop where
 p : ∃ y, y.pb = pq ∧ ZP w y n qp K ∧ (∀ g ∈ y.fp, w0.heap.size ≤ g) ∧ ∀ g ∈ gs, g ∉ y.fp
 gl : ∀ g ∈ gs, g < w.heap.size ∧ g ≠ xq ∧ g ≠ rs
 un : ∀ g ∈ gs, w.heap[g]? = wb.heap[g]?
 x : RX w xq rs qx
 hp : Hq qp n K
 hx : Hq qx n K
 b : Below w0.heap.size w0 w
 f : w0.heap.size ≤ xq ∧ w0.heap.size ≤ rs
section
variable {wb w0 w w' W : World} {gs : List Nat} {pq xq rs n K : Nat} {qp qx : QS}
theorem PXG.below (S : PXG gs wb w0 w pq xq rs n qp qx K) (hb : Below w.heap.size w w') : PXG gs wb w0 w' pq xq rs n qp qx K := by
 obtain ⟨y, e, Z, f⟩ := S.p
 exact ⟨⟨y, e, Z.below hb, f⟩, fun g hg => ⟨Nat.lt_of_lt_of_le (S.gl g hg).1 hb.size, (S.gl g hg).2⟩, fun g hg => (hb.block g (S.gl g hg).1).trans (S.un g hg), S.x.below hb, S.hp, S.hx, bstep S.b hb, S.f⟩
theorem PXG.more (S : PXG gs wb w0 w pq xq rs n qp qx K) {K' : Nat} (hk : K ≤ K') : PXG gs wb w0 w pq xq rs n qp qx K' := by
 obtain ⟨y, e, Z, f⟩ := S.p
 exact ⟨⟨y, e, Z.more hk, f⟩, S.gl, S.un, S.x, S.hp.more hk, S.hx.more hk, S.b, S.f⟩
/-- what is of neither stays -/
theorem PXG.stay (S : PXG gs wb w0 w pq xq rs n qp qx K) {g : Nat} {t : TypeId} {cs : Array Value} (B : Blk w g t cs) (h0 : t ≠ 86) (h0' : t ≠ 47) (ha : t ≠ 148) (hb : t ≠ 150) (h1 : t ≠ 115) (h2 : t ≠ 181) (h3 : t ≠ 3) (h4 : t ≠ 111) (h5 : t ≠ 140) (h6 : t ≠ 4) (h7 : t ≠ 185) : (∀ y c, AtP w y n (qp.ps c) → g ∉ y.fp) ∧ g ∉ [xq, rs] := by
 refine ⟨fun y c A => A.alien B ha hb h1 h2 h3 h4 h5 h6 h7, ?_⟩
 obtain ⟨fv, nv, ov, R⟩ := S.x
 simp only [List.mem_cons, List.not_mem_nil, or_false, not_or]
 exact ⟨B.ne_ R.hp h0, B.ne_ R.hs.hb h0'⟩
/-- a call of the program's pool -/
theorem PXG.prog (S : PXG gs wb w0 w pq xq rs n qp qx K) {y : Y} {c : C} (e : y.pb = pq) (A : AtP w y n (qp.ps c)) (f : (∀ g ∈ y.fp, w0.heap.size ≤ g) ∧ ∀ g ∈ gs, g ∉ y.fp) {qp' : QS} {K' : Nat} (hK : K ≤ K') (H' : Hq qp' n K') (p : ZTo w w' y n qp' K') : PXG gs wb w0 w' pq xq rs n qp' qx K' := by
 obtain ⟨y', e1, _, _, Z', o, f'⟩ := p
 obtain ⟨fv, nv, ov, R⟩ := S.x
 have hb : Below w0.heap.size w0 w' := S.b.trans (o.below_of S.b.size f.1)
 exact ⟨⟨y', e1.trans e, Z', fun g hg => (f' g hg).elim (f.1 g) (fun h => Nat.le_trans S.b.size h), fun g hg hm => (f' g hm).elim (f.2 g hg) (fun h => by have := (S.gl g hg).1; omega)⟩, fun g hg => ⟨Nat.lt_of_lt_of_le (S.gl g hg).1 o.size, (S.gl g hg).2⟩, fun g hg => (o.block g (S.gl g hg).1 (f.2 g hg)).trans (S.un g hg), ⟨_, _, _, R.only o (R.apart A)⟩, H', S.hx.more hK, hb, S.f⟩
theorem PXG.doc (S : PXG gs wb w0 w pq xq rs n qp qx K) {qx' : QS} {K' : Nat} (hK : K ≤ K') (H' : Hq qx' n K') (x : RX w' xq rs qx') (o : Only [xq, rs] w w') : PXG gs wb w0 w' pq xq rs n qp qx' K' := by
 obtain ⟨y, e, ⟨c, A, z⟩, f⟩ := S.p
 obtain ⟨fv, nv, ov, R⟩ := S.x
 have hap := R.apart A
 have hb : Below w0.heap.size w0 w' := S.b.trans (o.below_of S.b.size (fun g hg => by
  simp only [List.mem_cons, List.not_mem_nil, or_false] at hg
  rcases hg with rfl | rfl
  ·exact S.f.1
  ·exact S.f.2))
 exact ⟨⟨y, e, ⟨c, A.only o (fun g hg hm => by
  simp only [List.mem_cons, List.not_mem_nil, or_false] at hm
  rcases hm with rfl | rfl
  ·exact hap _ (by simp) hg
  ·exact hap _ (by simp) hg), z.more hK⟩, f⟩, fun g hg => ⟨Nat.lt_of_lt_of_le (S.gl g hg).1 o.size, (S.gl g hg).2⟩, fun g hg => (o.block g (S.gl g hg).1 (by simp only [List.mem_cons, List.not_mem_nil, or_false, not_or]; exact (S.gl g hg).2)).trans (S.un g hg), x, S.hp.more hK, H', hb, S.f⟩
theorem PXG.run (S : PXG gs wb w0 W pq xq rs n qp qx K) {q0 : Nat} {kd l : Int} {s : ByteArray} (hA : ActAt15 W q0 kd l s) {f : FuncId} {args : Array Value} {R : Value} {qp' : QS} {K' : Nat} (hK : K ≤ K') (H' : Hq qp' n K')
  (hc : ∀ y, y.pb = pq → ZP W y n qp K → Calls Tryz.prog f args W fun e W' => e = .returned R ∧ ZTo W W' y n qp' K') :
  Calls Tryz.prog f args W fun e W' => e = .returned R ∧ (PXG gs wb w0 W' pq xq rs n qp' qx K' ∧ ActAt15 W' q0 kd l s) := by
 obtain ⟨y, e, Z, fr⟩ := S.p
 obtain ⟨c, A, z⟩ := Z
 refine (hc y e ⟨c, A, z⟩).mono fun e' W' ⟨r, p⟩ => ⟨r, S.prog e A fr hK H' p, ?_⟩
 obtain ⟨y', _, _, _, _, o, _⟩ := p
 exact Blk.only hA o ((S.stay hA (by decide) (by decide) (by decide) (by decide) (by decide) (by decide) (by decide) (by decide) (by decide) (by decide) (by decide)).1 y c A)
theorem PXG.runX (S : PXG gs wb w0 W pq xq rs n qp qx K) {q0 : Nat} {kd l : Int} {s : ByteArray} (hA : ActAt15 W q0 kd l s) {f : FuncId} {args : Array Value} {R : Value} {qx' : QS} {K' : Nat} (hK : K ≤ K') (H' : Hq qx' n K')
  (hc : RX W xq rs qx → Calls Tryz.prog f args W fun e W' => e = .returned R ∧ RX W' xq rs qx' ∧ Only [xq, rs] W W') :
  Calls Tryz.prog f args W fun e W' => e = .returned R ∧ (PXG gs wb w0 W' pq xq rs n qp qx' K' ∧ ActAt15 W' q0 kd l s) :=
 (hc S.x).mono fun e' W' ⟨r, x, o⟩ => ⟨r, S.doc hK H' x o, Blk.only hA o (S.stay hA (by decide) (by decide) (by decide) (by decide) (by decide) (by decide) (by decide) (by decide) (by decide) (by decide) (by decide)).2⟩
end
section
variable {wb w0 w : World} {gs : List Nat} {pq xq rs n K : Nat} {qp qx : QS}
theorem PX.guard (S : PX w0 w pq xq rs n qp qx K) {w1 : World} (hb : Below w.heap.size w w1) (h : ∀ g ∈ gs, w.heap.size ≤ g ∧ g < w1.heap.size) : PXG gs w1 w0 w1 pq xq rs n qp qx K := by
 have T := S.below hb
 obtain ⟨y, e, Z, f⟩ := S.p
 obtain ⟨fv, nv, ov, R⟩ := S.x
 exact ⟨⟨y, e, Z.below hb, f, fun g hg hm => by obtain ⟨c, A, z⟩ := Z; have := A.lt g hm; have := (h g hg).1; omega⟩, fun g hg => ⟨(h g hg).2, fun e => by have := R.hp.lt; have := (h g hg).1; omega, fun e => by have := R.hs.hb.lt; have := (h g hg).1; omega⟩, fun g hg => rfl, T.x, T.hp, T.hx, T.b, T.f⟩
theorem PXG.px (S : PXG gs wb w0 w pq xq rs n qp qx K) : PX w0 w pq xq rs n qp qx K := by
 obtain ⟨y, e, Z, f⟩ := S.p
 exact ⟨⟨y, e, Z, f.1⟩, S.x, S.hp, S.hx, S.b, S.f⟩
/-- a slice that nobody writes -/
theorem slc_same {w w' : World} {e : TypeId} {z n : Nat} {v : Value} {l : List Value} (h : Slc w e z v n l) (hu : ∀ g ∈ ownB v, w'.heap[g]? = w.heap[g]?) : Slc w' e z v n l := by
 refine ⟨h.1, h.2.imp id ?_⟩
 rintro ⟨g, cap, rest, rfl, B, hc, hm⟩
 exact ⟨g, cap, rest, rfl, B.of_same (hu g (by simp [ownB])), hc, hm⟩
theorem PXG.do_ (S : PXG gs wb w0 w pq xq rs n qp qx K) (hK : K ≤ 800000) (kd l : Int) (s : ByteArray) (hs : s.size ≤ 1000000) :
  Calls Tryz.prog 42 #[pp pq, rp xq, .agg #[.int .i64 kd, .int .i64 l, .string s]] w fun e W => RB e ∧ PXG gs wb w0 W pq xq rs n (qp.stepF kd l s) (qx.stepF kd l s) (K + 40) := by
 have hb0 := doW15_below w kd l s
 have hA := doW15_act w kd l s
 have S0 : ∀ W, Below (doW15 w kd l s).heap.size (doW15 w kd l s) W → PXG gs wb w0 W pq xq rs n qp qx K ∧ ActAt15 W w.heap.size kd l s := fun W hW => ⟨(S.below hb0).below hW, Blk.below hA hW hA.lt⟩
 have hx0 : ∀ {W : World} {q1 q2 : QS} {K1 : Nat}, PXG gs wb w0 W pq xq rs n q1 q2 K1 → W.cell? ⟨xq, 0, none⟩ = some (.pointer (some ⟨rs, 0, none⟩)) := fun T => by
  obtain ⟨g, cp, _, b, _⟩ := T.x.fr
  exact b
 have st : ∀ (q1 q2 : QS) (K1 : Nat), Stays15 (fun W => PXG gs wb w0 W pq xq rs n q1 q2 K1 ∧ ActAt15 W w.heap.size kd l s) := fun q1 q2 K1 W W' h hb => ⟨h.1.below hb, Blk.below h.2 hb h.2.lt⟩
 have hb1 : ∀ (q1 q2 : QS) (K1 : Nat) (W : World), (PXG gs wb w0 W pq xq rs n q1 q2 K1 ∧ ActAt15 W w.heap.size kd l s) → ActAt15 W w.heap.size kd l s ∧ W.cell? ⟨xq, 0, none⟩ = some (.pointer (some ⟨rs, 0, none⟩)) := fun q1 q2 K1 W h => ⟨h.2, hx0 h.1⟩
 have hxw : ∀ W, Below (doW15 w kd l s).heap.size (doW15 w kd l s) W → W.cell? ⟨xq, 0, none⟩ = some (.pointer (some ⟨rs, 0, none⟩)) := fun W hW => hx0 (S0 W hW).1
 have Hp := S.hp
 have Hx := S.hx
 unfold QS.stepF
 by_cases h0 : kd = 0 ∨ kd = 1
 ·rw [if_pos h0, if_pos h0]
  refine (do15_new (pq := pq) kd l s h0 (st _ _ _) (st _ _ _) (hb1 (qp.newF s.data.toList).1 qx (K + 1)) (hb1 (qp.newF s.data.toList).1 (qx.newF s.data.toList).1 (K + 2)) hxw
   (fun W hW => (S0 W hW).1.run (S0 W hW).2 (by omega) (Hp.new _) (fun y e Z => by rw [← e]; exact zpnew_any Z (by omega) s (by omega)))
   (fun W h => h.1.runX h.2 (by omega) ((Hx.new s.data.toList).more (by omega)) (fun x => xsnew x Hx s hs))).mono fun e W h => ⟨h.1, h.2.1.more (by omega)⟩
 rw [if_neg h0, if_neg h0]
 by_cases h2 : kd = 2
 ·rw [if_pos h2, if_pos h2]
  refine (do15_hold (pq := pq) (rs := rs) kd l s h2 (st _ _ _) (st _ _ _) (hb1 (qp.holdF l).1 qx (K + 1)) (hb1 (qp.holdF l).1 (qx.holdF l).1 (K + 2)) hxw
   (fun W hW => (S0 W hW).1.run (S0 W hW).2 (by omega) (Hp.hold l) (fun y e Z => by rw [← e]; exact (zhold_any Z Hp.f (by omega) l).mono fun e w' h => ⟨h.1, .self h.2.1 h.2.2⟩))
   (fun W h => h.1.runX h.2 (by omega) ((Hx.hold l).more (by omega)) (fun x => xhold x Hx (by omega) l))).mono fun e W h => ⟨h.1, h.2.1.more (by omega)⟩
 rw [if_neg h2, if_neg h2]
 by_cases h3 : kd = 3
 ·rw [if_pos h3, if_pos h3]
  refine (do15_let (pq := pq) (rs := rs) kd l s h3 (st _ _ _) (st _ _ _) (hb1 (qp.letF l).1 qx K) (hb1 (qp.letF l).1 (qx.letF l).1 (K + 2)) hxw
   (fun W hW => (S0 W hW).1.run (S0 W hW).2 (by omega) (Hp.let_ l) (fun y e Z => by rw [← e]; exact (zlet_any Z Hp.f (by omega) l).mono fun e w' h => ⟨h.1, .self h.2.1 h.2.2⟩))
   (fun W h => h.1.runX h.2 (by omega) ((Hx.let_ l).more (by omega)) (fun x => xlet x Hx (by omega) l))).mono fun e W h => ⟨h.1, h.2.1.more (by omega)⟩
 rw [if_neg h3, if_neg h3]
 by_cases h4 : kd = 4
 ·rw [if_pos h4, if_pos h4]
  refine (do15_set (pq := pq) (rs := rs) kd l s h4 (st _ _ _) (st _ _ _) (hb1 (qp.setF l s).1 qx K) (hb1 (qp.setF l s).1 (qx.setF l s).1 (K + 2)) hxw
   (fun W hW => (S0 W hW).1.run (S0 W hW).2 (by omega) (Hp.set l s) (fun y e Z => by rw [← e]; exact (zset_any Z l s).mono fun e w' h => ⟨h.1, .self h.2.1 h.2.2⟩))
   (fun W h => h.1.runX h.2 (by omega) ((Hx.set l s).more (by omega)) (fun x => xsetF x Hx l s))).mono fun e W h => ⟨h.1, h.2.1.more (by omega)⟩
 rw [if_neg h4, if_neg h4]
 by_cases h5 : kd = 5 ∨ kd = 6 ∨ kd = 7
 ·rw [if_pos h5, if_pos h5]
  refine (do15_get (pq := pq) (rs := rs) kd l s h5 (st _ _ _) (st _ _ _) (hb1 (qp.getF l).1 qx (K + 1)) (hb1 (qp.getF l).1 (qx.getF l).1 (K + 2)) hxw
   (fun W hW => (S0 W hW).1.run (S0 W hW).2 (by omega) (Hp.get l) (fun y e Z => by rw [← e]; exact (zget_any Z Hp (by omega) l).mono fun e w' h => ⟨h.1, .self h.2.1 h.2.2⟩))
   (fun W h => h.1.runX h.2 (by omega) ((Hx.get l).more (by omega)) (fun x => xget x Hx (by omega) l))).mono fun e W h => ⟨h.1, h.2.1.more (by omega)⟩
 rw [if_neg h5, if_neg h5]
 by_cases h11 : kd = 11
 ·rw [if_pos h11, if_pos h11]
  refine (do15_drop (pq := pq) (rs := rs) kd l s h11 (st _ _ _) (st _ _ _) (hb1 (qp.dropF l).1 qx K) (hb1 (qp.dropF l).1 (qx.dropF l).1 (K + 2)) hxw
   (fun W hW => (S0 W hW).1.run (S0 W hW).2 (by omega) (Hp.drop l) (fun y e Z => by rw [← e]; exact (zpdrop_any Z Hp.f l).mono fun e w' h => ⟨h.1, .self h.2.1 h.2.2⟩))
   (fun W h => h.1.runX h.2 (by omega) ((Hx.drop l).more (by omega)) (fun x => xdrop x Hx l))).mono fun e W h => ⟨h.1, h.2.1.more (by omega)⟩
 rw [if_neg h11, if_neg h11]
 by_cases h12 : kd = 12
 ·rw [if_pos h12, if_pos h12]
  refine (do15_evict (pq := pq) (rs := rs) kd l s h12 (st _ _ _) (st _ _ _) (hb1 (qp.evictF l).1 qx (K + 1)) (hb1 (qp.evictF l).1 (qx.evictF l).1 (K + 2)) hxw
   (fun W hW => (S0 W hW).1.run (S0 W hW).2 (by omega) (Hp.evict l) (fun y e Z => by rw [← e]; exact (zevict_any Z Hp.f (by omega) l).mono fun e w' h => ⟨h.1, .self h.2.1 h.2.2⟩))
   (fun W h => h.1.runX h.2 (by omega) ((Hx.evict l).more (by omega)) (fun x => xevict x Hx l))).mono fun e W h => ⟨h.1, h.2.1.more (by omega)⟩
 rw [if_neg h12, if_neg h12]
 by_cases h13 : kd = 13
 ·rw [if_pos h13, if_pos h13]
  refine (do15_commit (pq := pq) (rs := rs) kd l s h13 (st _ _ _) (st _ _ _) (hb1 qp.commitF.1 qx (K + 40)) (hb1 qp.commitF.1 qx.commitF.1 (K + 40)) hxw
   (fun W hW => (S0 W hW).1.run (S0 W hW).2 (by omega) (Hp.commit (by omega)) (fun y e Z => by rw [← e]; exact zpcommit_any Z Hp.f (by omega)))
   (fun W h => h.1.runX h.2 (by omega) (Hx.commit (by omega)) (fun x => xcommit x Hx (by omega)))).mono fun e W h => ⟨h.1, h.2.1⟩
 rw [if_neg h13, if_neg h13]
 by_cases h14 : kd = 14
 ·rw [if_pos h14, if_pos h14]
  subst h14
  refine (do15_abort (pq := pq) (xq := xq) l s (P1 := fun W => PXG gs wb w0 W pq xq rs n qp qx.abortF K ∧ ActAt15 W w.heap.size 14 l s) (P2 := fun W => PXG gs wb w0 W pq xq rs n qp.abortF qx.abortF K ∧ ActAt15 W w.heap.size 14 l s)
   (fun W hW => (S0 W hW).1.runX (S0 W hW).2 (by omega) Hx.abort (fun x => xabort x Hx))
   (fun W h => h.1.run h.2 (by omega) Hp.abort (fun y e Z => by rw [← e]; exact zpabort_any Z))).mono fun e W h => ⟨h.1, h.2.1.more (by omega)⟩
 rw [if_neg h14, if_neg h14]
 refine (do15_put (pq := pq) (rs := rs) kd l s (by omega) (st _ _ _) (st _ _ _) (hb1 (qp.putF l s).1 qx (K + 1)) (hb1 (qp.putF l s).1 (qx.putF l s).1 (K + 2)) hxw
  (fun W hW => (S0 W hW).1.run (S0 W hW).2 (by omega) (Hp.put_ l s) (fun y e Z => by rw [← e]; exact (zput_any Z Hp (by omega) l s).mono fun e w' h => ⟨h.1, .self h.2.1 h.2.2⟩))
  (fun W h => h.1.runX h.2 (by omega) ((Hx.put_ l s).more (by omega)) (fun x => xput x Hx (by omega) l s))).mono fun e W h => ⟨h.1, h.2.1.more (by omega)⟩
end
end Go.Proofs.YtbelcgjbhpjnpaaGreat.Sh
