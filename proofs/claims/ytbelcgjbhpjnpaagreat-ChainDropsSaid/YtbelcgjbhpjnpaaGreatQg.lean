/- the document's pool by its contracts: Hold, Let, Set, Get, Put, Drop, Evict. -/
import Derived.Test.YtbelcgjbhpjnpaaGreatHq
import Derived.Test.YtbelcgjbhpjnpaaGreatQf
set_option linter.all false
set_option linter.unusedVariables false
set_option linter.unusedSimpArgs false
namespace Go.Proofs.YtbelcgjbhpjnpaaGreat.Sh
open Go.RowKit Pk Dk Pg
attribute [local go_sem ↓] Go.wp_at_zero Go.wp_at_succ
section
variable {w : World} {pq rs n Kz : Nat} {q : QS}
theorem xfind (h : RX w pq rs q) (p : Int) : Calls Tryz.prog 169 #[rp pq, .int .i64 p] w fun e w' => e = .returned (.int .i64 (findF q.l p)) ∧ w = w' := by
 obtain ⟨fv, nv, ov, h⟩ := h
 exact dfind_any h p
theorem xread (h : RX w pq rs q) (p : Int) : Calls Tryz.prog 171 #[rp pq, .int .i64 p] w fun e w' => e = .returned (.tuple #[.string ⟨(q.a.readF p).1.toArray⟩, .int .i64 (q.a.readF p).2]) ∧ w = w' := by
 obtain ⟨fv, nv, ov, h⟩ := h
 exact dread_any h p
theorem xset (h : RX w pq rs q) (k : Nat) (hk : k < q.l.length) (f : Fr) : Calls Tryz.prog 170 #[rp pq, .int .i64 (k : Nat), f.agg] w fun e w' => e = .returned (.tuple #[]) ∧ RX w' pq rs { q with l := q.l.set k f } ∧ Only [pq, rs] w w' := by
 obtain ⟨fv, nv, ov, h⟩ := h
 exact (dset_any h k hk f).mono fun e w' ⟨r, fv', A, o⟩ => ⟨r, ⟨_, _, _, A⟩, o.mono (fun x hx _ => by simp at hx; simp [hx])⟩
theorem xback (h : RX w pq rs q) (H : Hq q n Kz) (k : Nat) (hk : k < q.l.length) : Calls Tryz.prog 125 #[rp pq, .int .i64 (k : Nat)] w fun e w' => e = .returned (.int .i64 (q.backF k).2) ∧ RX w' pq rs (q.backF k).1 ∧ Only [pq, rs] w w' := by
 obtain ⟨fv, nv, ov, h⟩ := h
 exact dback_any (n := 0) (K := 0) h H.room k hk H.pay
theorem xheld (h : RX w pq rs q) : Calls Tryz.prog 124 #[rp pq] w fun e w' => e = .returned (.int .i64 (q.heldN : Nat)) ∧ w = w' := by
 obtain ⟨fv, nv, ov, h⟩ := h
 exact dheld_any h
theorem RX.lt2 (h : RX w pq rs q) : pq < w.heap.size ∧ rs < w.heap.size := by
 obtain ⟨fv, nv, ov, h⟩ := h
 exact ⟨h.hp.lt, h.hs.hb.lt⟩
/-- a frame of the document's pool, in memory -/
theorem RX.fr (h : RX w pq rs q) : ∃ g cp, w.cell? ⟨pq, 1, none⟩ = some (.slice (some ⟨g, 0, none⟩) q.l.length cp) ∧ w.cell? ⟨pq, 0, none⟩ = some (.pointer (some ⟨rs, 0, none⟩)) ∧ FrsAt w g q.l := by
 obtain ⟨fv, nv, ov, h⟩ := h
 obtain ⟨g, cp, rfl⟩ := h.fs
 exact ⟨g, cp, h.p1, h.p0, h.frs⟩
end
set_option maxRecDepth 100000 in
set_option maxHeartbeats 4000000 in
theorem xhold {w : World} {pq rs n Kz : Nat} {q : QS} (h : RX w pq rs q) (H : Hq q n Kz) (hK : Kz ≤ 1000000000000) (p : Int) :
  Calls Tryz.prog 112 #[rp pq, .int .i64 p] w fun e w' => e = .returned (.tuple #[.string (q.holdF p).2.1, .int .i64 (q.holdF p).2.2]) ∧ RX w' pq rs (q.holdF p).1 ∧ Only [pq, rs] w w' := by
 have KF := Lib.hid (xfind h p)
 rcases findF_le q.l p with e | ⟨k, f, e, hf, he1, he0⟩
 ·rw [e] at KF
  have KR := Lib.hid (xread h p)
  by_cases hr : (q.a.readF p).2 = 0
  ·rw [hr] at KR
   obtain ⟨v1, v3⟩ := H.victim
   have KV := Lib.hid (dvictim_any h H.f)
   rcases v3 with v3 | ⟨k, v3, hkl⟩
   ·have hE : q.holdF p = (q.victimF.1, ⟨#[]⟩, 12) := by
     unfold QS.holdF
     rw [e, if_neg (by omega), if_neg (by rw [hr]; simp), if_pos (by omega)]
    rw [hE]
    rw [v3] at KV
    generalize (⟨(q.a.readF p).1.toArray⟩ : ByteArray) = BB at *
    generalize q.victimF.1 = V at *
    clear h H hE hr e v3
    unfold rp at *
    go_enter Tryz.func112, Tryz.ntmps112
    go_wp2_with fail
    refine KF.out.mono ?_
    rintro e w1 ⟨rfl, rfl⟩
    go_wp2_with fail
    refine KR.out.mono ?_
    rintro e w1 ⟨rfl, rfl⟩
    go_wp2_with fail
    refine KV.out.mono ?_
    rintro e w2 ⟨rfl, x2, o2⟩
    have X2 := Lib.hid x2
    have O2 := Lib.hid o2
    clear x2 o2
    go_wp2_with fail
    go_ret2
    exact ⟨by first | rfl | simp, X2.out, O2.out⟩
   ·have va := victim_a q
    have hE : q.holdF p = if (q.victimF.1.backF k).2 ≠ 0 then ((q.victimF.1.backF k).1, ⟨#[]⟩, (q.victimF.1.backF k).2) else ({ (q.victimF.1.backF k).1 with l := (q.victimF.1.backF k).1.l.set k ⟨p, ⟨(q.a.readF p).1.toArray⟩, 1, false, true⟩ }, ⟨(q.a.readF p).1.toArray⟩, 0) := by
     unfold QS.holdF
     rw [e, if_neg (by omega), if_neg (by rw [hr]; simp), v3, if_neg (by omega), show ((k : Nat) : Int).toNat = k by omega]
    rw [hE]
    rw [v3] at KV
    have hvl : k < q.victimF.1.l.length := by omega
    have hbl := (back_l v1.f hvl).2
    generalize (⟨(q.a.readF p).1.toArray⟩ : ByteArray) = BB at *
    generalize q.victimF.1 = V at *
    have KB := Lib.hid (fun (W : World) (hW : RX W pq rs V) => xback hW v1 k hvl)
    rw [← hbl] at hvl
    generalize V.backF k = VB at *
    obtain ⟨B, be⟩ := VB
    dsimp only at KB hvl ⊢
    have KS := Lib.hid (fun (W : World) (hW : RX W pq rs B) => xset hW k hvl ⟨p, BB, 1, false, true⟩)
    have hk0 : ¬ (k : Int) < 0 := by omega
    unfold Fr.agg at KS
    dsimp only at KS
    obtain ⟨Q2, hQ⟩ : ∃ Q2, (if be ≠ 0 then (B, (⟨#[]⟩ : ByteArray), be) else (({ B with l := B.l.set k ⟨p, BB, 1, false, true⟩ } : QS), BB, 0)) = Q2 := ⟨_, rfl⟩
    rw [hQ]
    have HQ := Lib.hid hQ
    clear h H hE hr e v3 va v1 hvl hbl hQ hkl
    unfold rp at *
    go_enter Tryz.func112, Tryz.ntmps112
    go_wp2_with fail
    refine KF.out.mono ?_
    rintro e w1 ⟨rfl, rfl⟩
    go_wp2_with fail
    refine KR.out.mono ?_
    rintro e w1 ⟨rfl, rfl⟩
    go_wp2_with fail
    refine KV.out.mono ?_
    rintro e w2 ⟨rfl, x2, o2⟩
    have X2 := Lib.hid x2
    have O2 := Lib.hid o2
    clear x2 o2
    go_wp2_with fail
    refine (KB.out _ X2.out).mono ?_
    rintro e w3 ⟨rfl, x3, o3⟩
    have X3 := Lib.hid x3
    have O3 := Lib.hid (O2.out.trans o3)
    clear x3 o3
    by_cases he : be = 0
    ·subst he
     have HR := Lib.hid (HQ.out.symm.trans (if_neg (by simp)))
     clear HQ
     go_wp2_with fail
     refine (KS.out _ X3.out).mono ?_
     rintro e w4 ⟨rfl, x4, o4⟩
     have X4 := Lib.hid x4
     have O4 := Lib.hid (O3.out.trans o4)
     clear x4 o4
     go_wp2_with fail
     go_ret2
     exact ⟨by rw [HR.out]; rfl, by rw [HR.out]; exact X4.out, O4.out⟩
    ·have HR := Lib.hid (HQ.out.symm.trans (if_pos he))
     have hq : (be == 0) = false := by rw [beq_eq_false_iff_ne]; exact he
     have hq2 : (be != 0) = true := by rw [bne_iff_ne]; exact he
     clear HQ
     go_wp2_with fail
     go_ret2
     exact ⟨by rw [HR.out]; rfl, by rw [HR.out]; exact X3.out, O3.out⟩
  ·have hE : q.holdF p = (q, ⟨#[]⟩, (q.a.readF p).2) := by
    unfold QS.holdF
    rw [e, if_neg (by omega), if_pos hr]
   rw [hE]
   have H0 := Lib.hid h
   have hq : ((q.a.readF p).2 == 0) = false := by rw [beq_eq_false_iff_ne]; exact hr
   have hq2 : ((q.a.readF p).2 != 0) = true := by rw [bne_iff_ne]; exact hr
   generalize q.a.readF p = RR at *
   clear h H hE e
   unfold rp at *
   go_enter Tryz.func112, Tryz.ntmps112
   go_wp2_with fail
   refine KF.out.mono ?_
   rintro e w1 ⟨rfl, rfl⟩
   go_wp2_with fail
   refine KR.out.mono ?_
   rintro e w1 ⟨rfl, rfl⟩
   go_wp2_with fail
   go_ret2
   exact ⟨by first | rfl | simp, H0.out, Only.refl _ _⟩
 ·rw [e] at KF
  have hE : q.holdF p = ({ q with l := q.l.set k { f with held := f.held + 1, used := true } }, f.pay, 0) := by
   unfold QS.holdF
   rw [e, if_pos (by omega), show ((k : Nat) : Int).toNat = k by omega, frD_at hf]
  rw [hE]
  have hfb := H.f f (List.mem_of_getElem? hf)
  have hkl : k < q.l.length := (List.getElem?_eq_some_iff.1 hf).1
  have hl2 := H.l2
  have hkI : (k : Int) < (q.l.length : Int) := by omega
  have hk0 : (0 : Int) ≤ (k : Int) := by omega
  have eh : IntKind.i64.wrap (f.held + 1) = f.held + 1 := IntWalk.i64_in _ (by omega)
  obtain ⟨g, cp, p1, _, FR⟩ := h.fr
  obtain ⟨c0, c1, c2, c3, c4⟩ := FR k f hf
  have BL := Lib.hid (Blk.new w 88 #[.int .i64 f.page, .string f.pay, .int .i64 (f.held + 1), .bool f.dirty, .bool true])
  have OL := Lib.hid (belowAlloc (Below.refl w.heap.size w) (.cells #[.int .i64 f.page, .string f.pay, .int .i64 (f.held + 1), .bool f.dirty, .bool true] 88))
  have hlt := h.lt2
  have KS := Lib.hid (xset (h.below OL.out) k hkl { f with held := f.held + 1, used := true })
  unfold Fr.agg at KS
  dsimp only at KS
  have NB := Lib.hid (show w.heap.size ∉ [pq, rs] from by simp; omega)
  clear h H hE hf hfb hkl he1 he0
  unfold rp at *
  go_enter Tryz.func112, Tryz.ntmps112
  go_wp2_with fail
  refine KF.out.mono ?_
  rintro e w5 ⟨rfl, rfl⟩
  go_wp2_with fail
  refine KS.out.mono ?_
  rintro e w4 ⟨rfl, x4, o4⟩
  have X4 := Lib.hid x4
  have O4 := Lib.hid ((Only.of_below (S := [pq, rs]) OL.out).trans o4)
  have e1 := (BL.out.only o4 NB.out).cell_some (i := 1) rfl
  clear x4 o4
  go_wp2_with fail
  go_ret2
  exact ⟨by first | rfl | simp, X4.out, O4.out⟩
end Go.Proofs.YtbelcgjbhpjnpaaGreat.Sh
