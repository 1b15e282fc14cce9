/- layer 15's do, of a pool and the document's. -/
import Derived.Test.YtbelcgjbhpjnpaaGreatDq
import Derived.Test.YtbelcgjbhpjnpaaGreatDp
import Derived.Test.YtbelcgjbhpjnpaaGreatQk
set_option linter.all false
set_option linter.unusedVariables false
set_option linter.unusedSimpArgs false
namespace Go.Proofs.YtbelcgjbhpjnpaaGreat.Sh
open Go.RowKit Pk Dk Pg
section
variable {w0 w w' W : World} {pq xq rs n K : Nat} {qp qx : QS}
/-- what is of neither stays -/
theorem PX.stay (S : PX w0 w pq xq rs n qp qx K) {g : Nat} {t : TypeId} {cs : Array Value} (B : Blk w g t cs) (h0 : t ≠ 86) (h0' : t ≠ 47) (ha : t ≠ 148) (hb : t ≠ 150) (h1 : t ≠ 115) (h2 : t ≠ 181) (h3 : t ≠ 3) (h4 : t ≠ 111) (h5 : t ≠ 140) (h6 : t ≠ 4) (h7 : t ≠ 185) : (∀ y c, AtP w y n (qp.ps c) → g ∉ y.fp) ∧ g ∉ [xq, rs] := by
 refine ⟨fun y c A => A.alien B ha hb h1 h2 h3 h4 h5 h6 h7, ?_⟩
 obtain ⟨fv, nv, ov, R⟩ := S.x
 simp only [List.mem_cons, List.not_mem_nil, or_false, not_or]
 exact ⟨B.ne_ R.hp h0, B.ne_ R.hs.hb h0'⟩
theorem PX.run (S : PX w0 W pq xq rs n qp qx K) {q0 : Nat} {kd l : Int} {s : ByteArray} (hA : ActAt15 W q0 kd l s) {f : FuncId} {args : Array Value} {R : Value} {qp' : QS} {K' : Nat} (hK : K ≤ K') (H' : Hq qp' n K')
  (hc : ∀ y, y.pb = pq → ZP W y n qp K → Calls Tryz.prog f args W fun e W' => e = .returned R ∧ ZTo W W' y n qp' K') :
  Calls Tryz.prog f args W fun e W' => e = .returned R ∧ (PX w0 W' pq xq rs n qp' qx K' ∧ ActAt15 W' q0 kd l s) := by
 obtain ⟨y, e, Z, fr⟩ := S.p
 obtain ⟨c, A, z⟩ := Z
 refine (hc y e ⟨c, A, z⟩).mono fun e' W' ⟨r, p⟩ => ⟨r, S.prog e A fr hK H' p, ?_⟩
 obtain ⟨y', _, _, _, _, o, _⟩ := p
 exact Blk.only hA o ((S.stay hA (by decide) (by decide) (by decide) (by decide) (by decide) (by decide) (by decide) (by decide) (by decide) (by decide) (by decide)).1 y c A)
theorem PX.runX (S : PX w0 W pq xq rs n qp qx K) {q0 : Nat} {kd l : Int} {s : ByteArray} (hA : ActAt15 W q0 kd l s) {f : FuncId} {args : Array Value} {R : Value} {qx' : QS} {K' : Nat} (hK : K ≤ K') (H' : Hq qx' n K')
  (hc : RX W xq rs qx → Calls Tryz.prog f args W fun e W' => e = .returned R ∧ RX W' xq rs qx' ∧ Only [xq, rs] W W') :
  Calls Tryz.prog f args W fun e W' => e = .returned R ∧ (PX w0 W' pq xq rs n qp qx' K' ∧ ActAt15 W' q0 kd l s) :=
 (hc S.x).mono fun e' W' ⟨r, x, o⟩ => ⟨r, S.doc hK H' x o, Blk.only hA o (S.stay hA (by decide) (by decide) (by decide) (by decide) (by decide) (by decide) (by decide) (by decide) (by decide) (by decide) (by decide)).2⟩
end
theorem zget_any {w : World} {y : Y} {n K : Nat} {q : QS} (h : ZP w y n q K) (H : Hq q n K) (hK : K ≤ 899999) (p : Int) :
  Calls Tryz.prog 46 #[pp y.pb, .int .i64 p] w fun e w' => e = .returned (.tuple #[.string (q.getF p).2.1, .int .i64 (q.getF p).2.2]) ∧ ZP w' y n (q.getF p).1 (K + 1) ∧ Only y.fp w w' := by
 unfold QS.getF
 by_cases h0 : (q.holdF p).2.2 = 0
 ·rw [if_neg (by simpa using h0)]
  exact zget_good h H.f hK H.full p h0
 ·rw [if_pos h0]
  exact zget_bad h H.f hK p h0
theorem zput_any {w : World} {y : Y} {n K : Nat} {q : QS} (h : ZP w y n q K) (H : Hq q n K) (hK : K ≤ 899999) (p : Int) (b : ByteArray) :
  Calls Tryz.prog 45 #[pp y.pb, .int .i64 p, .string b] w fun e w' => e = .returned (.int .i64 (q.putF p b).2) ∧ ZP w' y n (q.putF p b).1 (K + 1) ∧ Only y.fp w w' := by
 unfold QS.putF
 by_cases hb : 232 < b.size
 ·rw [if_pos hb]
  exact (zput_big p b hb).mono fun e w' ⟨r, o⟩ => ⟨r, (h.below o).more (by omega), .of_below o⟩
 rw [if_neg hb]
 by_cases h0 : (q.holdF p).2.2 = 0
 ·rw [if_neg (by simpa using h0)]
  have hp := zput_good h H.f hK H.full p b (by omega) h0
  rw [set_held H p b (by omega) h0] at hp
  exact hp
 ·rw [if_pos h0]
  exact zput_bad h H.f hK H.full p b (by omega) h0
/-- a call, plainly -/
def QS.stepF (q : QS) (kd l : Int) (s : ByteArray) : QS :=
 if kd = 0 ∨ kd = 1 then (q.newF s.data.toList).1 else if kd = 2 then (q.holdF l).1 else if kd = 3 then (q.letF l).1 else if kd = 4 then (q.setF l s).1
 else if kd = 5 ∨ kd = 6 ∨ kd = 7 then (q.getF l).1 else if kd = 11 then (q.dropF l).1 else if kd = 12 then (q.evictF l).1 else if kd = 13 then q.commitF.1 else if kd = 14 then q.abortF else (q.putF l s).1
theorem Hq.step {q : QS} {n K : Nat} (h : Hq q n K) (hK : K ≤ 899000) (kd l : Int) (s : ByteArray) : Hq (q.stepF kd l s) n (K + 40) := by
 unfold QS.stepF
 split
 ·exact (h.new _).more (by omega)
 ·split
  ·exact (h.hold l).more (by omega)
  ·split
   ·exact (h.let_ l).more (by omega)
   ·split
    ·exact (h.set l s).more (by omega)
    ·split
     ·exact (h.get l).more (by omega)
     ·split
      ·exact (h.drop l).more (by omega)
      ·split
       ·exact (h.evict l).more (by omega)
       ·split
        ·exact h.commit hK
        ·split
         ·exact h.abort.more (by omega)
         ·exact (h.put_ l s).more (by omega)
section
variable {w0 w : World} {pq xq rs n K : Nat} {qp qx : QS}
theorem PX.do_ (S : PX w0 w pq xq rs n qp qx K) (hK : K ≤ 800000) (kd l : Int) (s : ByteArray) (hs : s.size ≤ 1000000) :
  Calls Tryz.prog 42 #[pp pq, rp xq, .agg #[.int .i64 kd, .int .i64 l, .string s]] w fun e W => RB e ∧ PX w0 W pq xq rs n (qp.stepF kd l s) (qx.stepF kd l s) (K + 40) := by
 have hb0 := doW15_below w kd l s
 have hA := doW15_act w kd l s
 have S0 : ∀ W, Below (doW15 w kd l s).heap.size (doW15 w kd l s) W → PX w0 W pq xq rs n qp qx K ∧ ActAt15 W w.heap.size kd l s := fun W hW => ⟨(S.below hb0).below hW, Blk.below hA hW hA.lt⟩
 have hx0 : ∀ {W : World} {q1 q2 : QS} {K1 : Nat}, PX w0 W pq xq rs n q1 q2 K1 → W.cell? ⟨xq, 0, none⟩ = some (.pointer (some ⟨rs, 0, none⟩)) := fun T => by
  obtain ⟨g, cp, _, b, _⟩ := T.x.fr
  exact b
 have st : ∀ (q1 q2 : QS) (K1 : Nat), Stays15 (fun W => PX w0 W pq xq rs n q1 q2 K1 ∧ ActAt15 W w.heap.size kd l s) := fun q1 q2 K1 W W' h hb => ⟨h.1.below hb, Blk.below h.2 hb h.2.lt⟩
 have hb1 : ∀ (q1 q2 : QS) (K1 : Nat) (W : World), (PX w0 W pq xq rs n q1 q2 K1 ∧ ActAt15 W w.heap.size kd l s) → ActAt15 W w.heap.size kd l s ∧ W.cell? ⟨xq, 0, none⟩ = some (.pointer (some ⟨rs, 0, none⟩)) := fun q1 q2 K1 W h => ⟨h.2, hx0 h.1⟩
 have hxw : ∀ W, Below (doW15 w kd l s).heap.size (doW15 w kd l s) W → W.cell? ⟨xq, 0, none⟩ = some (.pointer (some ⟨rs, 0, none⟩)) := fun W hW => hx0 (S0 W hW).1
 have Hp := S.hp
 have Hx := S.hx
 unfold QS.stepF
 by_cases h0 : kd = 0 ∨ kd = 1
 ·rw [if_pos h0, if_pos h0]
  refine (do15_new (pq := pq) kd l s h0 (st _ _ _) (st _ _ _) (hb1 (qp.newF s.data.toList).1 qx (K + 1)) (hb1 (qp.newF s.data.toList).1 (qx.newF s.data.toList).1 (K + 2)) hxw
   (fun W hW => (S0 W hW).1.run (S0 W hW).2 (by omega) (Hp.new _) (fun y e Z => by rw [← e]; exact zpnew_any Z (by omega) s (by omega)))
   (fun W h => h.1.runX h.2 (by omega) ((Hx.new s.data.toList).more (by omega)) (fun x => xsnew x Hx s hs))).mono fun e W h => ⟨h.1, h.2.1.more (by omega)⟩
 rw [if_neg h0, if_neg h0]
 by_cases h2 : kd = 2
 ·rw [if_pos h2, if_pos h2]
  refine (do15_hold (pq := pq) (rs := rs) kd l s h2 (st _ _ _) (st _ _ _) (hb1 (qp.holdF l).1 qx (K + 1)) (hb1 (qp.holdF l).1 (qx.holdF l).1 (K + 2)) hxw
   (fun W hW => (S0 W hW).1.run (S0 W hW).2 (by omega) (Hp.hold l) (fun y e Z => by rw [← e]; exact (zhold_any Z Hp.f (by omega) l).mono fun e w' h => ⟨h.1, .self h.2.1 h.2.2⟩))
   (fun W h => h.1.runX h.2 (by omega) ((Hx.hold l).more (by omega)) (fun x => xhold x Hx (by omega) l))).mono fun e W h => ⟨h.1, h.2.1.more (by omega)⟩
 rw [if_neg h2, if_neg h2]
 by_cases h3 : kd = 3
 ·rw [if_pos h3, if_pos h3]
  refine (do15_let (pq := pq) (rs := rs) kd l s h3 (st _ _ _) (st _ _ _) (hb1 (qp.letF l).1 qx K) (hb1 (qp.letF l).1 (qx.letF l).1 (K + 2)) hxw
   (fun W hW => (S0 W hW).1.run (S0 W hW).2 (by omega) (Hp.let_ l) (fun y e Z => by rw [← e]; exact (zlet_any Z Hp.f (by omega) l).mono fun e w' h => ⟨h.1, .self h.2.1 h.2.2⟩))
   (fun W h => h.1.runX h.2 (by omega) ((Hx.let_ l).more (by omega)) (fun x => xlet x Hx (by omega) l))).mono fun e W h => ⟨h.1, h.2.1.more (by omega)⟩
 rw [if_neg h3, if_neg h3]
 by_cases h4 : kd = 4
 ·rw [if_pos h4, if_pos h4]
  refine (do15_set (pq := pq) (rs := rs) kd l s h4 (st _ _ _) (st _ _ _) (hb1 (qp.setF l s).1 qx K) (hb1 (qp.setF l s).1 (qx.setF l s).1 (K + 2)) hxw
   (fun W hW => (S0 W hW).1.run (S0 W hW).2 (by omega) (Hp.set l s) (fun y e Z => by rw [← e]; exact (zset_any Z l s).mono fun e w' h => ⟨h.1, .self h.2.1 h.2.2⟩))
   (fun W h => h.1.runX h.2 (by omega) ((Hx.set l s).more (by omega)) (fun x => xsetF x Hx l s))).mono fun e W h => ⟨h.1, h.2.1.more (by omega)⟩
 rw [if_neg h4, if_neg h4]
 by_cases h5 : kd = 5 ∨ kd = 6 ∨ kd = 7
 ·rw [if_pos h5, if_pos h5]
  refine (do15_get (pq := pq) (rs := rs) kd l s h5 (st _ _ _) (st _ _ _) (hb1 (qp.getF l).1 qx (K + 1)) (hb1 (qp.getF l).1 (qx.getF l).1 (K + 2)) hxw
   (fun W hW => (S0 W hW).1.run (S0 W hW).2 (by omega) (Hp.get l) (fun y e Z => by rw [← e]; exact (zget_any Z Hp (by omega) l).mono fun e w' h => ⟨h.1, .self h.2.1 h.2.2⟩))
   (fun W h => h.1.runX h.2 (by omega) ((Hx.get l).more (by omega)) (fun x => xget x Hx (by omega) l))).mono fun e W h => ⟨h.1, h.2.1.more (by omega)⟩
 rw [if_neg h5, if_neg h5]
 by_cases h11 : kd = 11
 ·rw [if_pos h11, if_pos h11]
  refine (do15_drop (pq := pq) (rs := rs) kd l s h11 (st _ _ _) (st _ _ _) (hb1 (qp.dropF l).1 qx K) (hb1 (qp.dropF l).1 (qx.dropF l).1 (K + 2)) hxw
   (fun W hW => (S0 W hW).1.run (S0 W hW).2 (by omega) (Hp.drop l) (fun y e Z => by rw [← e]; exact (zpdrop_any Z Hp.f l).mono fun e w' h => ⟨h.1, .self h.2.1 h.2.2⟩))
   (fun W h => h.1.runX h.2 (by omega) ((Hx.drop l).more (by omega)) (fun x => xdrop x Hx l))).mono fun e W h => ⟨h.1, h.2.1.more (by omega)⟩
 rw [if_neg h11, if_neg h11]
 by_cases h12 : kd = 12
 ·rw [if_pos h12, if_pos h12]
  refine (do15_evict (pq := pq) (rs := rs) kd l s h12 (st _ _ _) (st _ _ _) (hb1 (qp.evictF l).1 qx (K + 1)) (hb1 (qp.evictF l).1 (qx.evictF l).1 (K + 2)) hxw
   (fun W hW => (S0 W hW).1.run (S0 W hW).2 (by omega) (Hp.evict l) (fun y e Z => by rw [← e]; exact (zevict_any Z Hp.f (by omega) l).mono fun e w' h => ⟨h.1, .self h.2.1 h.2.2⟩))
   (fun W h => h.1.runX h.2 (by omega) ((Hx.evict l).more (by omega)) (fun x => xevict x Hx l))).mono fun e W h => ⟨h.1, h.2.1.more (by omega)⟩
 rw [if_neg h12, if_neg h12]
 by_cases h13 : kd = 13
 ·rw [if_pos h13, if_pos h13]
  refine (do15_commit (pq := pq) (rs := rs) kd l s h13 (st _ _ _) (st _ _ _) (hb1 qp.commitF.1 qx (K + 40)) (hb1 qp.commitF.1 qx.commitF.1 (K + 40)) hxw
   (fun W hW => (S0 W hW).1.run (S0 W hW).2 (by omega) (Hp.commit (by omega)) (fun y e Z => by rw [← e]; exact zpcommit_any Z Hp.f (by omega)))
   (fun W h => h.1.runX h.2 (by omega) (Hx.commit (by omega)) (fun x => xcommit x Hx (by omega)))).mono fun e W h => ⟨h.1, h.2.1⟩
 rw [if_neg h13, if_neg h13]
 by_cases h14 : kd = 14
 ·rw [if_pos h14, if_pos h14]
  subst h14
  refine (do15_abort (pq := pq) (xq := xq) l s (P1 := fun W => PX w0 W pq xq rs n qp qx.abortF K ∧ ActAt15 W w.heap.size 14 l s) (P2 := fun W => PX w0 W pq xq rs n qp.abortF qx.abortF K ∧ ActAt15 W w.heap.size 14 l s)
   (fun W hW => (S0 W hW).1.runX (S0 W hW).2 (by omega) Hx.abort (fun x => xabort x Hx))
   (fun W h => h.1.run h.2 (by omega) Hp.abort (fun y e Z => by rw [← e]; exact zpabort_any Z))).mono fun e W h => ⟨h.1, h.2.1.more (by omega)⟩
 rw [if_neg h14, if_neg h14]
 refine (do15_put (pq := pq) (rs := rs) kd l s (by omega) (st _ _ _) (st _ _ _) (hb1 (qp.putF l s).1 qx (K + 1)) (hb1 (qp.putF l s).1 (qx.putF l s).1 (K + 2)) hxw
  (fun W hW => (S0 W hW).1.run (S0 W hW).2 (by omega) (Hp.put_ l s) (fun y e Z => by rw [← e]; exact (zput_any Z Hp (by omega) l s).mono fun e w' h => ⟨h.1, .self h.2.1 h.2.2⟩))
  (fun W h => h.1.runX h.2 (by omega) ((Hx.put_ l s).more (by omega)) (fun x => xput x Hx (by omega) l s))).mono fun e W h => ⟨h.1, h.2.1.more (by omega)⟩
end
end Go.Proofs.YtbelcgjbhpjnpaaGreat.Sh
