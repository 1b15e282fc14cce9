/- a call of the store and of the document's: both answer the same. -/
import Derived.Test.YtbelcgjbhpjnpaaGreatV1
set_option linter.all false
set_option linter.unusedVariables false
set_option linter.unusedSimpArgs false
namespace Go.Proofs.YtbelcgjbhpjnpaaGreat.Sh
open Go.RowKit Pk Dk Pg
section
variable {w0 w : World} {x : X} {rb n : Nat} {c : C} {a : St} {α : Int} {K : Nat} {tw : Bool}
theorem LS.end_up (S : LS w0 w x rb n c a α K tw) {w1 : World} (hb : Below w.heap.size w w1) {x' : X} {c' : C} {a' : St} {α' : Int} {nv ov : Value} {W : World} {kd : Int} (m : Mid w1 x x' rb n (c'.armed α') nv ov a' w0.heap.size W) (g : Good c' n) (R : Rooted c'.d n c'.ep c'.slot c'.old c'.parts) (T : tw = true → Twin c'.d c'.slot c'.ep) (e : ∃ k, a' = (c'.absF n).pad k) (hbb : kd ≠ 9 → x'.b = x.b) (h0 : 0 ≤ α') (h1 : α' ≤ α) (bc : c'.d.calls ≤ 40 * (K + 1 : Nat)) (be : c'.ep ≤ (K + 1 : Nat)) :
  DoneR w0 w x rb n c α K tw kd (.returned (.tuple #[sp x'.b, .bool true])) W :=
 .inl ⟨x', c', a', α', m.l, hbb, h1, rfl, S.of hb m g R T (S.h0.imp (fun h => by omega) id) e ⟨h0, by have := S.al.2; omega⟩ bc be, (Only.of_below (S := rb :: x.fp) hb).trans m.o, fun g hg => (m.f g hg).imp id (fun hge => Nat.le_trans hb.size hge)⟩
theorem LS.end_down (S : LS w0 w x rb n c a α K tw) (ha : 1 ≤ α) {w1 : World} (hb : Below w.heap.size w w1) {x' : X} {c' : C} {a' : St} {nv ov : Value} {W : World} {kd : Int} (m : Mid w1 x x' rb n c' nv ov a' w0.heap.size W) (hG : Gone c n kd c'.d) (b' : Nat) (β : Bool) :
  DoneR w0 w x rb n c α K tw kd (.returned (.tuple #[sp b', .bool β])) W :=
 .inr ⟨ha, b', β, c'.d, rfl, by have := m.at_.hd; rwa [m.l] at this, (Only.of_below (S := rb :: x.fp) hb).trans m.o, hG⟩
theorem LS.gone (S : LS w0 w x rb n c a α K tw) {d' : D} (hd : d'.down = true) (hok : d'.Ok n) (hcl : d'.calls ≤ c.d.calls + 40) (hc : Calm n (Kept c.parts c.old) c.d d') (kd : Int) : Gone c n kd d' :=
 ⟨hok, hd, hcl, fun cr => .inl ⟨c.slot, c.parts, c.old, (on_disk S.g S.R).crash hc hok cr⟩⟩
theorem LS.q_new (S : LS w0 w x rb n c a α K tw) : w.heap.size ∉ rb :: x.fp := fun hm => by
 obtain ⟨nv, ov, R, _⟩ := S.rt
 rcases List.mem_cons.1 hm with e | h
 ·have := R.hb.lt; omega
 ·have := S.at_.lt _ h; omega
theorem LS.ep0 (S : LS w0 w x rb n c a α K tw) (hK : K ≤ 999) : 0 ≤ (c.armed α).ep ∧ (c.armed α).ep ≤ 1099511627776 := by
 have := S.g.ep
 show 0 ≤ c.ep ∧ c.ep ≤ _
 omega
theorem LS.calls (S : LS w0 w x rb n c a α K tw) (hK : K ≤ 999) : (c.armed α).d.calls ≤ 999999900 ∧ (c.armed α).d.armed ≤ 9223372036854775807 := by
 have := S.bc
 have := S.al
 constructor
 ·show c.d.calls ≤ _; omega
 ·show α ≤ _; omega
theorem LS.do_new (S : LS w0 w x rb n c a α K tw) (kd l : Int) (s : ByteArray) (hs : s.size ≤ 1000000) (hK : K ≤ 999) (hk : kd = 0 ∨ kd = 1) :
  Calls Tryz.prog 16 #[dp x.L.b, sp x.b, rp rb, .agg #[.int .i64 kd, .int .i64 l, .string s]] w (DoneR w0 w x rb n c α K tw kd) := by
 have hb := doW_below w kd l s
 obtain ⟨nv, ov, m0⟩ := S.start hb
 have hroom := S.room
 have KP := new_any m0.at_ s (by omega) (S.ep0 hK) (by have := (S.calls hK).1; omega) (S.calls hK).2
 have KR := fun (W : World) (nv ov : Value) (h : RAt W rb nv ov a) => rnew14_any h hroom s (by omega)
 obtain ⟨k, ek⟩ := S.e
 obtain ⟨k', ep⟩ := pad_new (c.absF n) k s.data.toList
 rw [← ek] at ep
 obtain ⟨g1, g2, g3, g4, g5, g6⟩ := new_good S.g s.data.toList
 have hfl := new_fields c n s.data.toList
 refine (Sh.do_new (w := w) (Lb := x.L.b) (b := x.b) (rb := rb) kd l s hk
  (P1 := fun W => ∃ x1 nv ov, Mid (doW w kd l s) x x1 rb n ((c.armed α).newF n s.data.toList).1 nv ov a w0.heap.size W ∧ x1.b = x.b)
  (P2 := fun W => ∃ x1 nv ov, Mid (doW w kd l s) x x1 rb n ((c.armed α).newF n s.data.toList).1 nv ov (a.newF s.data.toList).1 w0.heap.size W ∧ x1.b = x.b)
  (fun W W' h hb => by obtain ⟨x1, nv, ov, m, e⟩ := h; exact ⟨x1, nv, ov, m.below hb, e⟩) (fun W W' h hb => by obtain ⟨x1, nv, ov, m, e⟩ := h; exact ⟨x1, nv, ov, m.below hb, e⟩)
  (fun W h => by obtain ⟨x1, nv, ov, m, e⟩ := h; exact m.act (doW_act w kd l s) S.q_new)
  (KP.mono fun e W h => ⟨h.1, by obtain ⟨x2, e2, m2⟩ := m0.prog h.2; exact ⟨x2, nv, ov, m2, e2⟩⟩)
  (fun W h => by
   obtain ⟨x1, nv, ov, m, e⟩ := h
   exact (KR W nv ov m.rt).mono fun e' W' h' => ⟨h'.1, by obtain ⟨nv', ov', m'⟩ := m.doc h'.2; exact ⟨x1, nv', ov', m', e⟩⟩)).mono ?_
 rintro e W ⟨⟨β, hβ, rfl⟩, x1, nv1, ov1, m1, e1⟩
 rcases new_sim S.g S.al.1 s.data.toList with ⟨z1, z2, z3⟩ | ⟨α', z1, z2, z3⟩
 ·exact S.end_down z1 hb m1 (S.gone z2 m1.at_.hd.ok (by have := new_bd (c.armed α) n s.data.toList (S.calls hK).2; have e : (c.armed α).d.calls = c.d.calls := rfl; omega) z3 kd) x.b β
 ·rw [z3] at m1 hβ
  rw [hβ ⟨by rw [ep]; show (c.newF n s.data.toList).2.1 = _; rw [g3], by rw [ep]; show (c.newF n s.data.toList).2.2 = _; rw [g3]⟩, ← e1]
  exact S.end_up hb m1 g1 (by rw [hfl.1, hfl.2.1, hfl.2.2.1, hfl.2.2.2.1]; exact new_rooted S.g S.R _) (by
   rw [hfl.2.2.1, hfl.2.2.2.1]
   exact fun ht => (S.T ht).calm S.R.n2 S.R.sl (fun j hj => .inl hj) (new_on S.g c.d _ S.g.ok)) ⟨k', by rw [ep, g2]⟩ (fun _ => e1) z1 z2 (by have := S.bc; omega) (by rw [hfl.2.2.1]; have := S.be; omega)
theorem LS.do_write (S : LS w0 w x rb n c a α K tw) (kd l : Int) (s : ByteArray) (hs : s.size ≤ 1000000) (hK : K ≤ 999) (hk : kd ≠ 0 ∧ kd ≠ 1 ∧ kd ≠ 5 ∧ kd ≠ 6 ∧ kd ≠ 7 ∧ kd ≠ 8 ∧ kd ≠ 9) :
  Calls Tryz.prog 16 #[dp x.L.b, sp x.b, rp rb, .agg #[.int .i64 kd, .int .i64 l, .string s]] w (DoneR w0 w x rb n c α K tw kd) := by
 have hb := doW_below w kd l s
 obtain ⟨nv, ov, m0⟩ := S.start hb
 have hroom := S.room
 have htab : ∀ k, (c.armed α).table.getD k 0 ≤ 1024 := fun k => by
  show c.table.getD k 0 ≤ 1024
  have hm : c.m.length ≤ 1024 := by rw [S.g.ml]; unfold pagesF; omega
  by_cases hk : k < c.table.length
  ·simp only [List.getD, List.getElem?_eq_getElem hk, Option.getD_some]
   have := S.g.ti _ (List.getElem_mem hk)
   omega
  ·simp only [List.getD]
   rw [List.getElem?_eq_none (by omega)]
   show (0 : Int) ≤ 1024
   omega
 have KP := fun (W : World) (hW : Below (w.heap.size + 1) (doW w kd l s) W) => swrite_any (m0.at_.below (by have := hW; rwa [show (doW w kd l s).heap.size = w.heap.size + 1 from by unfold doW; simp])) l s (by omega) (S.ep0 hK) (by have := (S.calls hK).1; omega) (S.calls hK).2 htab
 have KR := fun (W : World) (nv ov : Value) (h : RAt W rb nv ov a) => rwrite14_any h hroom l s (by omega)
 obtain ⟨k, ek⟩ := S.e
 have ep := pad_write (c.absF n) k l s.data.toList
 rw [← ek] at ep
 obtain ⟨g1, g2, g3, g4⟩ := write_good S.g l s.data.toList
 have hfl := write_fields c n l s.data.toList
 refine (Sh.do_write (w := w) (Lb := x.L.b) (b := x.b) (rb := rb) kd l s hk
  (P1 := fun W => ∃ x1 nv ov, Mid (doW w kd l s) x x1 rb n ((c.armed α).writeF n l s.data.toList).1 nv ov a w0.heap.size W ∧ x1.b = x.b)
  (P2 := fun W => ∃ x1 nv ov, Mid (doW w kd l s) x x1 rb n ((c.armed α).writeF n l s.data.toList).1 nv ov (a.writeF l s.data.toList).1 w0.heap.size W ∧ x1.b = x.b)
  (fun W W' h hb => by obtain ⟨x1, nv, ov, m, e⟩ := h; exact ⟨x1, nv, ov, m.below hb, e⟩) (fun W W' h hb => by obtain ⟨x1, nv, ov, m, e⟩ := h; exact ⟨x1, nv, ov, m.below hb, e⟩)
  (fun W h => by obtain ⟨x1, nv, ov, m, e⟩ := h; exact m.act (doW_act w kd l s) S.q_new) (fun W h => by obtain ⟨x1, nv, ov, m, e⟩ := h; exact m.act (doW_act w kd l s) S.q_new)
  (fun W hW => (KP W hW).mono fun e W' h => ⟨h.1, by
   have hW' : Below (doW w kd l s).heap.size (doW w kd l s) W := by rwa [show (doW w kd l s).heap.size = w.heap.size + 1 from by unfold doW; simp]
   obtain ⟨x2, e2, m2⟩ := (m0.below hW').prog (.self h.2.1 h.2.2)
   exact ⟨x2, nv, ov, m2, e2⟩⟩)
  (fun W h => by
   obtain ⟨x1, nv, ov, m, e⟩ := h
   exact (KR W nv ov m.rt).mono fun e' W' h' => ⟨h'.1, by obtain ⟨nv', ov', m'⟩ := m.doc h'.2; exact ⟨x1, nv', ov', m', e⟩⟩)).mono ?_
 rintro e W ⟨⟨β, hβ, rfl⟩, x1, nv1, ov1, m1, e1⟩
 rcases write_sim S.g S.al.1 l s.data.toList with ⟨z1, z2, z3⟩ | ⟨α', z1, z2, z3⟩
 ·exact S.end_down z1 hb m1 (S.gone z2 m1.at_.hd.ok (by have := write_bd (c.armed α) n l s.data.toList (S.calls hK).2; have e : (c.armed α).d.calls = c.d.calls := rfl; omega) z3 kd) x.b β
 ·rw [z3] at m1 hβ
  rw [hβ (by rw [ep]; exact g3), ← e1]
  exact S.end_up hb m1 g1 (by rw [hfl.1, hfl.2.1, hfl.2.2.1, hfl.2.2.2.1]; exact write_rooted S.g S.R _ _) (by
   rw [hfl.2.2.1, hfl.2.2.2.1]
   exact fun ht => (S.T ht).calm S.R.n2 S.R.sl (fun j hj => .inl hj) (write_on S.g c.d _ _ S.g.ok)) ⟨k, by rw [ep, g2]⟩ (fun _ => e1) z1 z2 (by have := S.bc; omega) (by rw [hfl.2.2.1]; have := S.be; omega)
theorem drop_fields (c : C) (l : Int) : (c.dropF l).1.old = c.old ∧ (c.dropF l).1.parts = c.parts ∧ (c.dropF l).1.ep = c.ep ∧ (c.dropF l).1.slot = c.slot ∧ (c.dropF l).1.d = c.d := by
 unfold C.dropF
 split <;> exact ⟨rfl, rfl, rfl, rfl, rfl⟩
theorem drop_armed (c : C) (α l : Int) : (c.armed α).dropF l = ((c.dropF l).1.armed α, (c.dropF l).2) := by
 unfold C.dropF
 have e1 : (c.armed α).atF l = c.atF l := rfl
 rw [e1]
 split <;> rfl
theorem LS.do_drop (S : LS w0 w x rb n c a α K tw) (kd l : Int) (s : ByteArray) (hk : kd = 5) :
  Calls Tryz.prog 16 #[dp x.L.b, sp x.b, rp rb, .agg #[.int .i64 kd, .int .i64 l, .string s]] w (DoneR w0 w x rb n c α K tw kd) := by
 have hb := doW_below w kd l s
 obtain ⟨nv, ov, m0⟩ := S.start hb
 have KP := fun (W : World) (hW : Below (w.heap.size + 1) (doW w kd l s) W) => drop_any (m0.at_.below (by have := hW; rwa [show (doW w kd l s).heap.size = w.heap.size + 1 from by unfold doW; simp])) l
 have KR := fun (W : World) (nv ov : Value) (h : RAt W rb nv ov a) => rdrop14_any h l
 obtain ⟨k, ek⟩ := S.e
 have ep := pad_drop (c.absF n) k l
 rw [← ek] at ep
 obtain ⟨g1, g2, g3, g4, g5, g6⟩ := drop_good S.g l
 have hfl := drop_fields c l
 refine (Sh.do_drop (w := w) (Lb := x.L.b) (b := x.b) (rb := rb) kd l s hk
  (P1 := fun W => ∃ x1 nv ov, Mid (doW w kd l s) x x1 rb n ((c.armed α).dropF l).1 nv ov a w0.heap.size W ∧ x1.b = x.b)
  (P2 := fun W => ∃ x1 nv ov, Mid (doW w kd l s) x x1 rb n ((c.armed α).dropF l).1 nv ov (a.dropF l).1 w0.heap.size W ∧ x1.b = x.b)
  (fun W W' h hb => by obtain ⟨x1, nv, ov, m, e⟩ := h; exact ⟨x1, nv, ov, m.below hb, e⟩) (fun W W' h hb => by obtain ⟨x1, nv, ov, m, e⟩ := h; exact ⟨x1, nv, ov, m.below hb, e⟩)
  (fun W h => by obtain ⟨x1, nv, ov, m, e⟩ := h; exact m.act (doW_act w kd l s) S.q_new) (fun W h => by obtain ⟨x1, nv, ov, m, e⟩ := h; exact m.act (doW_act w kd l s) S.q_new)
  (fun W hW => (KP W hW).mono fun e W' h => ⟨h.1, by
   have hW' : Below (doW w kd l s).heap.size (doW w kd l s) W := by rwa [show (doW w kd l s).heap.size = w.heap.size + 1 from by unfold doW; simp]
   obtain ⟨x2, e2, m2⟩ := (m0.below hW').prog (.self h.2.1 h.2.2)
   exact ⟨x2, nv, ov, m2, e2⟩⟩)
  (fun W h => by
   obtain ⟨x1, nv, ov, m, e⟩ := h
   exact (KR W nv ov m.rt).mono fun e' W' h' => ⟨h'.1, by obtain ⟨nv', ov', m'⟩ := m.doc h'.2; exact ⟨x1, nv', ov', m', e⟩⟩)).mono ?_
 rintro e W ⟨⟨β, hβ, rfl⟩, x1, nv1, ov1, m1, e1⟩
 rw [drop_armed] at m1 hβ
 rw [hβ (by rw [ep]; exact g3), ← e1]
 exact S.end_up hb m1 g1 (by rw [hfl.1, hfl.2.1, hfl.2.2.1, hfl.2.2.2.1, hfl.2.2.2.2]; exact S.R) (by rw [hfl.2.2.1, hfl.2.2.2.1, hfl.2.2.2.2]; exact S.T) ⟨k, by rw [ep, g2]⟩ (fun _ => e1) S.al.1 (Int.le_refl _) (by rw [hfl.2.2.2.2]; have := S.bc; omega) (by rw [hfl.2.2.1]; have := S.be; omega)
theorem LS.do_abort (S : LS w0 w x rb n c a α K tw) (kd l : Int) (s : ByteArray) (hk : kd = 8) :
  Calls Tryz.prog 16 #[dp x.L.b, sp x.b, rp rb, .agg #[.int .i64 kd, .int .i64 l, .string s]] w (DoneR w0 w x rb n c α K tw kd) := by
 have hb := doW_below w kd l s
 obtain ⟨nv, ov, m0⟩ := S.start hb
 have hol : (c.armed α).old.length ≤ 512 := by have := S.R.ro.2.2.2.1; show c.old.length ≤ 512; omega
 have KP := fun (W : World) (x1 : X) (h : At W x1 n (c.armed α)) => sabort_any h hol
 have KR := fun (W : World) (nv ov : Value) (h : RAt W rb nv ov a) => rabort_any h
 obtain ⟨k, ek⟩ := S.e
 obtain ⟨g1, g2, g3⟩ := abort_good S.g
 refine (Sh.do_abort (w := w) (Lb := x.L.b) (b := x.b) (rb := rb) kd l s hk
  (P1 := fun W => ∃ nv ov, Mid (doW w kd l s) x x rb n (c.armed α) nv ov { a with now := oldS a.old } w0.heap.size W)
  (P2 := fun W => ∃ x1 nv ov, Mid (doW w kd l s) x x1 rb n (c.armed α).abortF nv ov { a with now := oldS a.old } w0.heap.size W ∧ x1.b = x.b)
  ((KR _ nv ov m0.rt).mono fun e' W' h' => ⟨h'.1, m0.doc h'.2⟩)
  (fun W h => by
   obtain ⟨nv, ov, m⟩ := h
   exact (KP W x m.at_).mono fun e W' h' => ⟨h'.1, by obtain ⟨x2, e2, m2⟩ := m.prog h'.2; exact ⟨x2, nv, ov, m2, e2⟩⟩)).mono ?_
 rintro e W ⟨rfl, x1, nv1, ov1, m1, e1⟩
 rw [show (c.armed α).abortF = c.abortF.armed α from rfl] at m1
 rw [← e1]
 exact S.end_up hb m1 g1 (by show Rooted c.d n c.ep c.slot c.old c.parts; exact S.R) (by show tw = true → Twin c.d c.slot c.ep; exact S.T) ⟨0, by rw [pad_zero, g2, ek]; rfl⟩ (fun _ => e1) S.al.1 (Int.le_refl _) (by show c.d.calls ≤ _; have := S.bc; omega) (by show c.ep ≤ _; have := S.be; omega)
theorem LS.do_commit (S : LS w0 w x rb n c a α K tw) (kd l : Int) (s : ByteArray) (hK : K ≤ 999) (hk : kd = 6 ∨ kd = 7) :
  Calls Tryz.prog 16 #[dp x.L.b, sp x.b, rp rb, .agg #[.int .i64 kd, .int .i64 l, .string s]] w (DoneR w0 w x rb n c α K tw kd) := by
 have hb := doW_below w kd l s
 obtain ⟨nv, ov, m0⟩ := S.start hb
 have hroom := S.room
 have hm : c.m.length ≤ 1024 := by rw [S.g.ml]; unfold pagesF; omega
 have htl : c.table.length ≤ 512 := S.at_.tl
 have hep := S.g.ep
 have hbe := S.be
 have KP := fun (W : World) (hW : Below (w.heap.size + 1) (doW w kd l s) W) => scommit_any (m0.at_.below (by have := hW; rwa [show (doW w kd l s).heap.size = w.heap.size + 1 from by unfold doW; simp])) S.g.br (S.ep0 hK).1 (fun y hy => by have := S.g.ti y hy; omega) S.g.sl (S.calls hK).1 (S.calls hK).2 (Rt.rightR_len S.R.ro) (fun hf he => by
  obtain ⟨mT, P, e, _, _, _, _, _, t6, t7⟩ := commit_takes S.g htl hf
  have e' : takeN (c.armed α).m (needT (c.armed α).trimF.table.length) = (mT, P) := e
  rw [e']
  exact ⟨by rw [t6]; exact t7, t6⟩)
 obtain ⟨k, ek⟩ := S.e
 have hae : a.ep ≤ 999999 := by rw [ek]; show c.ep ≤ _; omega
 have KR := fun (W : World) (nv ov : Value) (h : RAt W rb nv ov a) => rcommit_any h hroom hae
 have hae2 : a.free = (c.absF n).free := by rw [ek, pad_free]
 have hnx : a.nextF = (c.absF n).nextF := by rw [ek, pad_next]
 refine (Sh.do_commit (w := w) (Lb := x.L.b) (b := x.b) (rb := rb) kd l s hk
  (P1 := fun W => ∃ x1 nv ov, Mid (doW w kd l s) x x1 rb n ((c.armed α).commitF n).1 nv ov a w0.heap.size W ∧ x1.b = x.b)
  (P2 := fun W => ∃ x1 nv ov, Mid (doW w kd l s) x x1 rb n ((c.armed α).commitF n).1 nv ov a.commitF.1 w0.heap.size W ∧ x1.b = x.b)
  (fun W W' h hb => by obtain ⟨x1, nv, ov, m, e⟩ := h; exact ⟨x1, nv, ov, m.below hb, e⟩) (fun W W' h hb => by obtain ⟨x1, nv, ov, m, e⟩ := h; exact ⟨x1, nv, ov, m.below hb, e⟩)
  (fun W h => by obtain ⟨x1, nv, ov, m, e⟩ := h; exact m.act (doW_act w kd l s) S.q_new)
  (fun W hW => (KP W hW).mono fun e W' h => ⟨h.1, by
   have hW' : Below (doW w kd l s).heap.size (doW w kd l s) W := by rwa [show (doW w kd l s).heap.size = w.heap.size + 1 from by unfold doW; simp]
   obtain ⟨x2, e2, m2⟩ := (m0.below hW').prog h.2
   exact ⟨x2, nv, ov, m2, e2⟩⟩)
  (fun W h => by
   obtain ⟨x1, nv, ov, m, e⟩ := h
   exact (KR W nv ov m.rt).mono fun e' W' h' => ⟨h'.1, by obtain ⟨nv', ov', m'⟩ := m.doc h'.2; exact ⟨x1, nv', ov', m', e⟩⟩)).mono ?_
 rintro e W ⟨⟨β, hβ, rfl⟩, x1, nv1, ov1, m1, e1⟩
 have hsim : (1 ≤ α ∧ ((c.armed α).commitF n).1.d.down = true ∧ Left c n ((c.armed α).commitF n).1.d) ∨ ∃ α', 0 ≤ α' ∧ α' ≤ α ∧ (c.armed α).commitF n = ((c.commitF n).1.armed α', (c.commitF n).2) := S.h0.elim (fun h => .inr ⟨0, by omega, by omega, by rw [h]; exact commit_sim0 S.g S.R (by omega) htl⟩) (fun h => commit_sim S.g S.R (S.T h) (by omega) htl S.al.1)
 rcases hsim with ⟨z1, z2, z3⟩ | ⟨α', z1, z2, z3⟩
 ·exact S.end_down z1 hb m1 ⟨z3.1, z2, by have := commit_bd (c.armed α) n (S.calls hK).2 htl; have e : (c.armed α).d.calls = c.d.calls := rfl; omega, fun cr => (z3.2 cr).imp id (fun h => ⟨hk, h⟩)⟩ x.b β
 ·rw [z3] at m1 hβ
  by_cases hf : (c.absF n).free < needT (c.absF n).nextF.length
  ·rw [commit_full S.g hf] at m1 hβ
   have hc : a.commitF = (a, 11) := by unfold St.commitF; rw [hae2, hnx, if_pos hf]
   rw [hc] at m1 hβ
   rw [hβ rfl, ← e1]
   obtain ⟨t1, t2⟩ := trim_good S.g
   exact S.end_up hb m1 t1 (by show Rooted c.d n c.ep c.slot c.old c.parts; exact S.R) (by show tw = true → Twin c.d c.slot c.ep; exact S.T) ⟨_, by rw [ek, t2, pad_pad]⟩ (fun _ => e1) z1 z2 (by show c.d.calls ≤ _; have := S.bc; omega) (by show c.ep ≤ _; have := S.be; omega)
  ·obtain ⟨c', d1, d2, d3, d4, d5, d6, d7, d8⟩ := commit_good S.g S.R (by omega) htl hf
   rw [d1] at m1 hβ
   have hc : a.commitF = ({ a with now := oldS a.nextF, old := a.nextF, ep := a.ep + 1 }, 0) := by unfold St.commitF; rw [hae2, hnx, if_neg hf]
   rw [hc] at m1 hβ
   rw [hβ rfl, ← e1]
   exact S.end_up hb m1 d2 d3 (fun _ => d4) ⟨0, by rw [pad_zero, d6, hnx, ek]; rfl⟩ (fun _ => e1) z1 z2 (by show c'.d.calls ≤ _; have := S.bc; omega) (by show c'.ep ≤ _; rw [d8]; omega)
theorem LS.do_open (S : LS w0 w x rb n c a α K tw) (kd l : Int) (s : ByteArray) (hα : α = 0) (hk : kd = 9) :
  Calls Tryz.prog 16 #[dp x.L.b, sp x.b, rp rb, .agg #[.int .i64 kd, .int .i64 l, .string s]] w (DoneR w0 w x rb n c α K tw kd) := by
 have hb := doW_below w kd l s
 obtain ⟨nv, ov, m0⟩ := S.start hb
 subst hα
 rw [armed_zero S.g.arm] at m0
 have KR := fun (W : World) (nv ov : Value) (h : RAt W rb nv ov a) => rabort_any h
 obtain ⟨k, ek⟩ := S.e
 have OD := on_disk S.g S.R
 have hep := S.g.ep
 refine (Sh.do_open (w := w) (Lb := x.L.b) (b := x.b) (rb := rb) kd l s hk
  (P1 := fun b' W => ∃ x1 c1, x1.b = b' ∧ Mid (doW w kd l s) x x1 rb n c1 nv ov a w0.heap.size W ∧ Good c1 n ∧ c1.d = c.d ∧ c1.ep = c.ep ∧ c1.slot = c.slot ∧ c1.old = c.old ∧ c1.parts = c.parts ∧ c1.absF n = { many := pagesF n, now := oldS (c.absF n).old, old := (c.absF n).old, ep := c.ep })
  (P2 := fun b' W => ∃ x1 c1 nv ov, x1.b = b' ∧ Mid (doW w kd l s) x x1 rb n c1 nv ov { a with now := oldS a.old } w0.heap.size W ∧ Good c1 n ∧ c1.d = c.d ∧ c1.ep = c.ep ∧ c1.slot = c.slot ∧ c1.old = c.old ∧ c1.parts = c.parts ∧ c1.absF n = { many := pagesF n, now := oldS (c.absF n).old, old := (c.absF n).old, ep := c.ep })
  ((open_any m0.at_.hd S.g.up S.R.n2).mono fun e W h => ?_)
  (fun b' W h => by
   obtain ⟨x1, c1, e, m, r⟩ := h
   exact (KR W nv ov m.rt).mono fun e' W' h' => ⟨h'.1, by obtain ⟨nv', ov', m'⟩ := m.doc h'.2; exact ⟨x1, c1, nv', ov', e, m', r⟩⟩)).mono ?_
 ·obtain ⟨hD, hO, hr⟩ := h
  rcases hr with ⟨t, k, hN, hr⟩ | ⟨g0, g1, _⟩
  ·obtain ⟨c1, r1, r2, r3, r4, r5, r6, r7, r8⟩ := OD.opened S.g.up S.g.arm S.g.ok hep.2 hN
   rw [r1] at hr
   rcases hr with ⟨hne, _⟩ | ⟨_, x1, hl, rfl, A1, f1⟩
   ·exact absurd rfl hne
   ·refine ⟨x1.b, rfl, x1, c1, rfl, ⟨hl, A1, m0.rt.only hO (fun g hg hm => m0.at_.not_doc m0.rt g hg (L_fp x g hm)), hO.mono (fun g hg _ => List.mem_cons_of_mem _ (L_fp x g hg)), fun g hg => (f1 g hg).imp (L_fp x g) id, m0.fr, m0.b1⟩, r7, r2, r3, r4, r5, r6, r8⟩
  ·rcases S.R.sl with hs | hs
   ·have := OD.root.2.2.2
    rw [hs] at this
    exact absurd this g0
   ·have := OD.root.2.2.2
    rw [hs] at this
    exact absurd this g1
 ·rintro e W ⟨b', rfl, x1, c1, nv1, ov1, e1, m1, r7, r2, r3, r4, r5, r6, r8⟩
  rw [← e1]
  rw [← armed_zero r7.arm] at m1
  exact S.end_up hb m1 r7 (by rw [r2, r3, r4, r5, r6]; exact S.R) (by rw [r2, r3, r4]; exact S.T) ⟨0, by rw [pad_zero, r8, ek, ← S.g.ml]; rfl⟩ (fun h => absurd hk h) (Int.le_refl _) (Int.le_refl _) (by rw [r2]; have := S.bc; omega) (by rw [r3]; have := S.be; omega)
theorem LS.do_any (S : LS w0 w x rb n c a α K tw) (kd l : Int) (s : ByteArray) (hs : s.size ≤ 1000000) (hK : K ≤ 999) (h9 : kd = 9 → α = 0) :
  Calls Tryz.prog 16 #[dp x.L.b, sp x.b, rp rb, .agg #[.int .i64 kd, .int .i64 l, .string s]] w (DoneR w0 w x rb n c α K tw kd) := by
 by_cases h0 : kd = 0 ∨ kd = 1
 ·exact S.do_new kd l s hs hK h0
 by_cases h5 : kd = 5
 ·exact S.do_drop kd l s h5
 by_cases h6 : kd = 6 ∨ kd = 7
 ·exact S.do_commit kd l s hK h6
 by_cases h8 : kd = 8
 ·exact S.do_abort kd l s h8
 by_cases h9' : kd = 9
 ·exact S.do_open kd l s (h9 h9') h9'
 ·exact S.do_write kd l s hs hK (by omega)
end
end Go.Proofs.YtbelcgjbhpjnpaaGreat.Sh
