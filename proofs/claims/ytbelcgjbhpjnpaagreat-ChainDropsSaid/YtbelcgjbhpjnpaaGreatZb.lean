/- a pool by its contracts: back and Hold, whatever is dirty. -/
import Derived.Test.YtbelcgjbhpjnpaaGreatZs
set_option linter.all false
set_option linter.unusedVariables false
set_option linter.unusedSimpArgs false
namespace Go.Proofs.YtbelcgjbhpjnpaaGreat.Sh
open Go.RowKit Pk Dk Pg
attribute [local go_sem ↓] Go.wp_at_zero Go.wp_at_succ
/-- a pool in memory -/
def ZP (w : World) (y : Y) (n : Nat) (q : QS) (K : Nat) : Prop := ∃ c, AtP w y n (q.ps c) ∧ Zc c n q.a K
theorem ZP.below {w w' : World} {y : Y} {n : Nat} {q : QS} {K : Nat} (h : ZP w y n q K) (hb : Below w.heap.size w w') : ZP w' y n q K := by
 obtain ⟨c, A, z⟩ := h
 exact ⟨c, A.below hb, z⟩
theorem ZP.more {w : World} {y : Y} {n : Nat} {q : QS} {K K' : Nat} (h : ZP w y n q K) (hk : K ≤ K') : ZP w y n q K' := by
 obtain ⟨c, A, z⟩ := h
 exact ⟨c, A, z.more hk⟩
theorem frD_at {l : List Fr} {k : Nat} {f : Fr} (h : l[k]? = some f) : frD l k = f := by unfold frD; rw [h]; rfl
set_option maxRecDepth 100000 in
set_option maxHeartbeats 4000000 in
theorem back_dirty {w : World} {y : Y} {n K : Nat} {q : QS} {c : C} (h : AtP w y n (q.ps c)) (z : Zc c n q.a K) (hK : K ≤ 1000000000000) (k : Nat) {f : Fr} (hf : q.l[k]? = some f) (hd : f.dirty = true) (hs : f.pay.size ≤ 1000) :
  Calls Tryz.prog 123 #[pp y.pb, .int .i64 (k : Nat)] w fun e w' => e = .returned (.int .i64 (q.backF k).2) ∧ ZP w' y n (q.backF k).1 (K + 1) ∧ Only y.fp w w' := by
 have hk : k < q.l.length := (List.getElem?_eq_some_iff.1 hf).1
 have p1 : w.cell? ⟨y.pb, 1, none⟩ = some (.slice (some ⟨y.fg, 0, none⟩) q.l.length y.cp) := h.p1
 have l2 : q.l.length ≤ 32 := h.l2
 have hkI : (k : Int) < (q.l.length : Int) := by omega
 obtain ⟨c0, c1, c2, c3, c4⟩ := h.frs k f hf
 rw [hd] at c3
 have KW := Lib.hid (fun (W : World) (A : AtP W y n (q.ps c)) => zwrite_any A.hs z hK f.page f.pay (by omega))
 have HP := Lib.hid (fun (w1 w2 : World) (c' : C) (A1 : AtP w1 y n (q.ps c)) (A : At w2 y.x n c') (o : Only y.x.fp w1 w2) => (show AtP w2 y n (q.ps c') ∧ Only y.fp w1 w2 from A1.same A o))
 have AD := Lib.hid h.drew
 have OD := Lib.hid ((Only.refl y.fp w).drew)
 have HF := Lib.hid hf
 obtain ⟨R, hR⟩ : ∃ R, q.a.writeF f.page f.pay.data.toList = R := ⟨_, rfl⟩
 have hB : q.backF k = if R.2 = 0 then ({ q with a := R.1, l := q.l.set k { f with dirty := false } }, 0) else ({ q with a := R.1 }, R.2) := by
  unfold QS.backF
  rw [frD_at hf, if_pos hd, hR]
 rw [hB]
 rw [hR] at KW
 obtain ⟨Ra, Re⟩ := R
 dsimp only at KW ⊢
 obtain ⟨Q2, hQ⟩ : ∃ Q2, (if Re = 0 then (({ q with a := Ra, l := q.l.set k { f with dirty := false } } : QS), (0 : Int)) else ({ q with a := Ra }, Re)) = Q2 := ⟨_, rfl⟩
 rw [hQ]
 have HQ := Lib.hid hQ
 clear hQ
 have S0 := Lib.hid (show (fun W' => W'.cell? ⟨y.pb, 0, none⟩ = some (.pointer (some ⟨y.x.b, 0, none⟩)) ∧ W'.cell? ⟨y.fg, k * 5, none⟩ = some (.int .i64 f.page) ∧ W'.cell? ⟨y.fg, k * 5 + 1, none⟩ = some (.string f.pay)) w.drew from ⟨AD.out.p0, (AD.out.frs k f hf).1, (AD.out.frs k f hf).2.1⟩)
 clear h z hf hd hB hR c0 c1 c2 c4
 unfold pp sp at *
 go_enter Tryz.func123, Tryz.ntmps123
 go_wp2_with fail
 refine wp_region_held_drew (S := fun W' => W'.cell? ⟨y.pb, 0, none⟩ = some (.pointer (some ⟨y.x.b, 0, none⟩)) ∧ W'.cell? ⟨y.fg, k * 5, none⟩ = some (.int .i64 f.page) ∧ W'.cell? ⟨y.fg, k * 5 + 1, none⟩ = some (.string f.pay)) (by kernel_rfl) (S0.out) (fun hHeld => ?_)
 refine zpl [(0,18),(1,19),(2,20),(3,21),(4,22),(5,23),(6,24),(7,25),(8,26),(9,27),(10,28),(11,29)] ?_
 iterate 12 (refine ztp (v := ?_) rfl (by kernel_rfl) (fun _ _ _ h => h) (by assumption) ?_ ?_; rotate_left; (·intro w hS; (try dsimp only at hS); go_simp; try with_reducible rfl); try simp only [Act.put, pa, pb, pc])
 refine zpe ?_
 refine wpAnyH_ready (rs := [12]) (by kernel_rfl) (by simp) ?_
 refine AllReadyH.cons (o := ⟨some 30, _, _, _, _, _⟩) rfl (fun K hK => ?_) AllReadyH.nil
 go_simp
 go_at_call 32
 refine (KW.out _ AD.out).mono ?_
 rintro e w5 ⟨rfl, c5, a5, z5, o5⟩
 have P5 := HP.out w.drew w5 c5 AD.out a5 o5
 have A5 := Lib.hid P5.1
 have O5 := Lib.hid (OD.out.trans P5.2)
 have Z5 := Lib.hid z5
 clear P5 a5 o5 z5
 obtain ⟨d0, d1, d2, d3, d4⟩ := A5.out.frs k f HF.out
 have q0 := A5.out.p0
 go_simp
 refine hK.out _ _ (⟨q0, d0, d1⟩) (fun hHeld => ?_)
 try simp only [Act.put, pa, pb, pc]
 refine zpl [(13,6)] ?_
 iterate 1 (refine ztp (v := ?_) rfl (by kernel_rfl) (fun _ _ _ h => h) (by assumption) ?_ ?_; rotate_left; (·intro w hS; (try dsimp only at hS); go_simp; try with_reducible rfl); try simp only [Act.put, pa, pb, pc])
 refine zpe ?_
 refine wpAnyH_done (by kernel_rfl) ?_ _
 have hfs := HF.out
 by_cases he : Re = 0
 ·subst he
  have HR := Lib.hid (HQ.out.symm.trans (if_pos rfl))
  clear HQ
  obtain ⟨z0, B0, qq⟩ := A5.out.setF k 3 (by omega) { f with dirty := false } (.bool false) HF.out rfl
  have AZ := Lib.hid B0
  have OZ := Lib.hid (O5.out.trans qq)
  clear B0 qq
  go_wp2_with fail
  go_ret
  exact ⟨by rw [HR.out]; rfl, by rw [HR.out]; exact ⟨c5, AZ.out, Z5.out⟩, OZ.out⟩
 ·have HR := Lib.hid (HQ.out.symm.trans (if_neg he))
  clear HQ
  have hq : (Re == 0) = false := by rw [beq_eq_false_iff_ne]; exact he
  have hq2 : (Re != 0) = true := by rw [bne_iff_ne]; exact he
  go_wp2_with fail
  go_ret
  exact ⟨by rw [HR.out]; rfl, by rw [HR.out]; exact ⟨c5, A5.out, Z5.out⟩, O5.out⟩
theorem back_any {w : World} {y : Y} {n K : Nat} {q : QS} (h : ZP w y n q K) (hK : K ≤ 1000000000000) (k : Nat) (hk : k < q.l.length) (hs : ∀ f ∈ q.l, f.pay.size ≤ 1000) :
  Calls Tryz.prog 123 #[pp y.pb, .int .i64 (k : Nat)] w fun e w' => e = .returned (.int .i64 (q.backF k).2) ∧ ZP w' y n (q.backF k).1 (K + 1) ∧ Only y.fp w w' := by
 obtain ⟨c, A, z⟩ := h
 have hf := frD_get hk
 by_cases hd : (frD q.l k).dirty = true
 ·exact back_dirty A z hK k hf hd (hs _ (List.mem_of_getElem? hf))
 ·unfold QS.backF
  rw [if_neg hd]
  exact (back_clean A k hf (by simpa using hd)).mono fun e w' ⟨r, b⟩ => ⟨r, ⟨c, A.below b, z.more (by omega)⟩, .of_below b⟩
set_option maxRecDepth 100000 in
set_option maxHeartbeats 4000000 in
/-- Hold, where a frame is to go: it may have to be written -/
theorem hold_go {w : World} {y : Y} {n K : Nat} {q : QS} (h : ZP w y n q K) (hK : K ≤ 1000000000000) (p : Int) (hk : findF q.l p = -1) (hr : (q.a.readF p).2 = 0) (k : Nat) (hv : q.victimF.2 = (k : Nat)) (hkl : k < q.l.length) (hs : ∀ f ∈ q.victimF.1.l, f.pay.size ≤ 1000) :
  Calls Tryz.prog 52 #[pp y.pb, .int .i64 p] w fun e w' => e = .returned (.tuple #[.string (q.holdF p).2.1, .int .i64 (q.holdF p).2.2]) ∧ ZP w' y n (q.holdF p).1 (K + 1) ∧ Only y.fp w w' := by
 obtain ⟨c, A, z⟩ := h
 have KF := Lib.hid (find_any A p)
 rw [show (q.ps c).l = q.l from rfl, hk] at KF
 have HB := Lib.hid (fun w' (hb : Below w.heap.size w w') => A.below hb)
 have KR := Lib.hid (fun w' (hb : Below w.heap.size w w') => zread_any (A.below hb).hs z p)
 have KV := Lib.hid (fun w' (hb : Below w.heap.size w w') => victim_any (A.below hb))
 rw [victim_ps] at KV
 rw [hr] at KR
 rw [hv] at KV
 have hvl := (victim_a q).2
 have hva := (victim_a q).1
 have hH : q.holdF p = if (q.victimF.1.backF k).2 ≠ 0 then ((q.victimF.1.backF k).1, ⟨#[]⟩, (q.victimF.1.backF k).2) else ({ (q.victimF.1.backF k).1 with l := (q.victimF.1.backF k).1.l.set k ⟨p, ⟨(q.a.readF p).1.toArray⟩, 1, false, true⟩ }, ⟨(q.a.readF p).1.toArray⟩, 0) := by
  unfold QS.holdF
  rw [hk, if_neg (by omega), if_neg (by rw [hr]; simp), hv, if_neg (by omega), show ((k : Nat) : Int).toNat = k by omega]
 rw [hH]
 clear hH
 generalize (q.a.readF p).1 = R at *
 generalize q.victimF.1 = V at *
 have KB := Lib.hid (fun w' (h : ZP w' y n V K) => back_any h hK k (by omega) hs)
 have hbl : k < (V.backF k).1.l.length := by
  unfold QS.backF
  split
  ·split
   ·show k < (V.l.set k _).length
    rw [List.length_set]; omega
   ·show k < V.l.length
    omega
  ·show k < V.l.length
   omega
 generalize V.backF k = VB at *
 obtain ⟨B, be⟩ := VB
 dsimp only at KB hbl ⊢
 obtain ⟨Q2, hQ⟩ : ∃ Q2, (if be ≠ 0 then (B, (⟨#[]⟩ : ByteArray), be) else (({ B with l := B.l.set k ⟨p, ⟨R.toArray⟩, 1, false, true⟩ } : QS), ⟨R.toArray⟩, 0)) = Q2 := ⟨_, rfl⟩
 rw [hQ]
 have HQ := Lib.hid hQ
 clear hQ
 have HZ := Lib.hid (show ∀ W, AtP W y n (V.ps c) → ZP W y n V K from fun W h => ⟨c, h, by rw [hva]; exact z⟩)
 have hk0 : ¬ (k : Int) < 0 := by omega
 clear A z hk hv hvl hva hs hr
 unfold pp sp at *
 go_enter Tryz.func52, Tryz.ntmps52
 go_wp2_with fail
 refine KF.out.mono ?_
 rintro e w1 ⟨rfl, hb1⟩
 have O1 := Lib.hid hb1
 have p0 := (HB.out w1 hb1).p0
 clear hb1
 go_wp2_with fail
 refine (KR.out w1 O1.out).mono ?_
 rintro e w2 ⟨rfl, hb2⟩
 have O2 := Lib.hid (bstep O1.out hb2)
 clear hb2 p0
 go_wp2_with fail
 refine (KV.out w2 O2.out).mono ?_
 rintro e w3 ⟨rfl, A3, o3⟩
 have Z3 := Lib.hid (HZ.out w3 A3)
 have o3 := Lib.hid ((Only.of_below (S := y.fp) O2.out).trans o3)
 clear A3
 go_wp2_with fail
 refine (KB.out w3 Z3.out).mono ?_
 rintro e w4 ⟨rfl, z4, o4⟩
 obtain ⟨c4, A4, Z4⟩ := z4
 have A4 := Lib.hid A4
 have Z4 := Lib.hid Z4
 have o4 := Lib.hid (o3.out.trans o4)
 by_cases he : be = 0
 ·subst he
  have HR := Lib.hid (HQ.out.symm.trans (if_neg (by simp)))
  clear HQ
  have p1 : w4.cell? ⟨y.pb, 1, none⟩ = some (.slice (some ⟨y.fg, 0, none⟩) B.l.length y.cp) := A4.out.p1
  have l2 : B.l.length ≤ 32 := A4.out.l2
  have hkI : (k : Int) < (B.l.length : Int) := by omega
  obtain ⟨f, HF⟩ : ∃ f, Hid (B.l[k]? = some f) := ⟨_, Lib.hid (List.getElem?_eq_getElem hbl)⟩
  obtain ⟨c0, c1, c2, c3, c4'⟩ := A4.out.frs k f HF.out
  obtain ⟨z0, B0, q0⟩ := A4.out.setF k 0 (by omega) { f with page := p } (.int .i64 p) HF.out rfl
  rw [Nat.add_zero] at z0 B0 q0
  have g0 : (B.l.set k { f with page := p })[k]? = some { f with page := p } := by rw [List.getElem?_set_self hbl]
  obtain ⟨z1, B1, q1⟩ := B0.setF k 1 (by omega) { f with page := p, pay := ⟨R.toArray⟩ } (.string ⟨R.toArray⟩) g0 rfl
  simp only [List.set_set] at B1
  have g1 : (B.l.set k { f with page := p, pay := ⟨R.toArray⟩ })[k]? = some { f with page := p, pay := ⟨R.toArray⟩ } := by rw [List.getElem?_set_self hbl]
  obtain ⟨z2, B2, q2⟩ := B1.setF k 2 (by omega) { f with page := p, pay := ⟨R.toArray⟩, held := 1 } (.int .i64 1) g1 rfl
  simp only [List.set_set] at B2
  have g2 : (B.l.set k { f with page := p, pay := ⟨R.toArray⟩, held := 1 })[k]? = some { f with page := p, pay := ⟨R.toArray⟩, held := 1 } := by rw [List.getElem?_set_self hbl]
  obtain ⟨z3, B3, q3⟩ := B2.setF k 3 (by omega) { f with page := p, pay := ⟨R.toArray⟩, held := 1, dirty := false } (.bool false) g2 rfl
  simp only [List.set_set] at B3
  have g3 : (B.l.set k { f with page := p, pay := ⟨R.toArray⟩, held := 1, dirty := false })[k]? = some { f with page := p, pay := ⟨R.toArray⟩, held := 1, dirty := false } := by rw [List.getElem?_set_self hbl]
  obtain ⟨z4, B4, q4⟩ := B3.setF k 4 (by omega) ⟨p, ⟨R.toArray⟩, 1, false, true⟩ (.bool true) g3 rfl
  simp only [List.set_set] at B4
  have AZ := Lib.hid B4
  have OZ := Lib.hid (o4.out.trans ((((q0.trans q1).trans q2).trans q3).trans q4))
  clear B0 B1 B2 B3 B4 q0 q1 q2 q3 q4 g0 g1 g2 g3 hbl
  go_wp2_with fail
  go_ret2
  exact ⟨by rw [HR.out]; rfl, by rw [HR.out]; exact ⟨c4, AZ.out, Z4.out⟩, OZ.out⟩
 ·have HR := Lib.hid (HQ.out.symm.trans (if_pos he))
  clear HQ
  have hq : (be == 0) = false := by rw [beq_eq_false_iff_ne]; exact he
  have hq2 : (be != 0) = true := by rw [bne_iff_ne]; exact he
  clear hbl
  go_wp2_with fail
  go_ret2
  exact ⟨by rw [HR.out]; rfl, by rw [HR.out]; exact ⟨c4, A4.out, Z4.out⟩, o4.out⟩
/-- what the frames of a pool hold: small numbers, payloads of a page -/
def Fb (l : List Fr) (K : Nat) : Prop := ∀ f ∈ l, 0 ≤ f.held ∧ f.held ≤ K ∧ f.pay.size ≤ 1000
theorem Fb.set {l : List Fr} {K : Nat} (h : Fb l K) (k : Nat) {f : Fr} (hf : 0 ≤ f.held ∧ f.held ≤ K ∧ f.pay.size ≤ 1000) : Fb (l.set k f) K := by
 intro g hg
 rcases List.mem_or_eq_of_mem_set hg with hg | rfl
 ·exact h g hg
 ·exact hf
theorem Fb.more {l : List Fr} {K K' : Nat} (h : Fb l K) (hk : K ≤ K') : Fb l K' := fun f hf => by have := h f hf; omega
theorem Fb.nil {K : Nat} : 0 ≤ Fr.nil.held ∧ Fr.nil.held ≤ (K : Nat) ∧ Fr.nil.pay.size ≤ 1000 := ⟨Int.le_refl _, by show (0 : Int) ≤ _; omega, by decide⟩
theorem qspin_ok {K : Nat} : ∀ (m : Nat) (s : QS), s.hand < s.l.length → Fb s.l K → Fb (s.spin m).1.l K ∧ (s.spin m).1.hand < (s.spin m).1.l.length ∧ ((s.spin m).2 = -1 ∨ ∃ k : Nat, (s.spin m).2 = k ∧ k < s.l.length)
 | 0, _, hl, hc => ⟨hc, hl, .inl rfl⟩
 | m + 1, s, hl, hc => by
  unfold QS.spin
  have hf := frD_get hl
  have hm := hc _ (List.mem_of_getElem? hf)
  have ht : (s.hand + 1) % s.l.length < s.l.length := Nat.mod_lt _ (by omega)
  split
  ·exact qspin_ok m s.turn ht hc
  ·split
   ·have := qspin_ok m { s.turn with l := s.l.set s.hand { frD s.l s.hand with used := false } } (by rw [List.length_set]; exact ht) (hc.set _ hm)
    rw [List.length_set] at this
    exact this
   ·exact ⟨hc, ht, .inr ⟨s.hand, rfl, hl⟩⟩
theorem qvictim_ok {K : Nat} (s : QS) (hl : s.hand < s.l.length) (hc : Fb s.l K) : Fb s.victimF.1.l K ∧ s.victimF.1.hand < s.victimF.1.l.length ∧ (s.victimF.2 = -1 ∨ ∃ k : Nat, s.victimF.2 = k ∧ k < s.l.length) := by
 unfold QS.victimF
 split
 ·refine ⟨hc, hl, ?_⟩
  rcases ixF_le (fun f => decide (f.page < 0)) s.l with e | ⟨k, f, e, hf, _⟩
  ·exact .inl e
  ·exact .inr ⟨k, e, (List.getElem?_eq_some_iff.1 hf).1⟩
 ·exact qspin_ok _ s hl hc
theorem zhold_any {w : World} {y : Y} {n K : Nat} {q : QS} (h : ZP w y n q K) (hb : Fb q.l K) (hK : K ≤ 1000000000000) (p : Int) :
  Calls Tryz.prog 52 #[pp y.pb, .int .i64 p] w fun e w' => e = .returned (.tuple #[.string (q.holdF p).2.1, .int .i64 (q.holdF p).2.2]) ∧ ZP w' y n (q.holdF p).1 (K + 1) ∧ Only y.fp w w' := by
 have h' := h
 obtain ⟨c, A, z⟩ := h
 rcases findF_le q.l p with e | ⟨k, f, e, hf, _, _⟩
 ·by_cases hr : (q.a.readF p).2 = 0
  ·obtain ⟨v1, v2, v3⟩ := qvictim_ok q A.lh hb
   rcases v3 with v3 | ⟨k, v3, hk⟩
   ·unfold QS.holdF
    rw [e, if_neg (by omega), if_neg (by rw [hr]; simp), if_pos (by omega)]
    refine (hold_full A p e (by rw [show (q.ps c).c = c from rfl, z.read]; exact hr) (by rw [victim_ps]; show q.victimF.2 < 0; omega)).mono fun e w' ⟨r, A', o⟩ => ⟨r, ?_, o⟩
    rw [victim_ps] at A'
    exact ⟨c, A', by rw [(victim_a q).1]; exact z.more (by omega)⟩
   ·exact hold_go h' hK p e hr k v3 hk (fun f hf => (v1 f hf).2.2)
  ·unfold QS.holdF
   rw [e, if_neg (by omega), if_pos hr]
   have hb := hold_bad A p e (by rw [show (q.ps c).c = c from rfl, z.read]; exact hr)
   rw [show (q.ps c).c = c from rfl, z.read] at hb
   exact hb.mono fun e w' ⟨h1, h2⟩ => ⟨h1, ⟨c, A.below h2, z.more (by omega)⟩, .of_below h2⟩
 ·unfold QS.holdF
  rw [e, if_pos (by omega), show ((k : Nat) : Int).toNat = k from by omega, frD_at hf]
  exact (hold_hit A p k e hf (by have := hb f (List.mem_of_getElem? hf); omega)).mono fun e w' ⟨r, A', o⟩ => ⟨r, ⟨c, A', z.more (by omega)⟩, o⟩
end Go.Proofs.YtbelcgjbhpjnpaaGreat.Sh
