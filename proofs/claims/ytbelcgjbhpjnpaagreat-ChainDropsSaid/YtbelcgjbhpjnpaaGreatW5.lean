/- shadow by its contracts: Commit. -/
import Derived.Test.YtbelcgjbhpjnpaaGreatWb
set_option linter.all false
set_option linter.unusedVariables false
set_option linter.unusedSimpArgs false
namespace Go.Proofs.YtbelcgjbhpjnpaaGreat.Sh
open Go.RowKit Pk Dk Pg
attribute [local go_sem ↓] Go.wp_at_zero Go.wp_at_succ exec_app
/-- in the midst of a commit -/
structure CW (x : X) (n : Nat) (w0 w : World) (x' : X) (c' : C) : Prop where
 a : At w x' n c'
 o : Only x.fp w0 w
 f : x'.fp = x.fp
theorem CW.below {x x' : X} {n : Nat} {w0 w w' : World} {c' : C} (h : CW x n w0 w x' c') (hb : Below w.heap.size w w') : CW x n w0 w' x' c' := ⟨h.a.below hb, h.o.trans (.of_below hb), h.f⟩
/-- the store is broken -/
theorem CW.brk {x x' : X} {n : Nat} {w0 w : World} {c' : C} (h : CW x n w0 w x' c') : CW x n w0 (w.setCell ⟨x'.b, 7, none⟩ (.bool true)) x' { c' with broken := true } := by
 have o2 := (Only.refl [x'.b] w).setCell (p := ⟨x'.b, 7, none⟩) (by simp) (.bool true)
 have A := h.a
 obtain ⟨n1, n2, n3, n4⟩ := A.own_ne A.hb
 have ns : ∀ {v : Value} {k : Nat} {l : List Value}, Sl w 3 v k l → ∀ g ∈ ownS v, g ∉ [x'.b] := fun S g hg hm => n4 S (by rw [← List.mem_singleton.1 hm]; exact hg)
 exact ⟨⟨A.hb.set_ 7 _, A.hd.only o2 (fun g hg hm => n3 (by rw [← List.mem_singleton.1 hm]; exact hg)), A.hm.only o2 (fun hm => n1 (List.mem_singleton.1 hm).symm) (fun hm => n2 (List.mem_singleton.1 hm).symm), A.ht.only o2 (ns A.ht), A.ho.only o2 (ns A.ho), A.hp.only o2 (fun g hg hm => A.hp.far A.hb (by decide) (by decide) (by rw [← List.mem_singleton.1 hm]; exact hg)), A.n1, A.n2, A.n3, A.n4, A.n5, A.n6, A.tl⟩, h.o.trans (o2.mono (fun g hg _ => by rw [← h.f]; simp at hg; subst hg; simp [X.fp])), h.f⟩
theorem CW.post {x : X} {v : Value} {n : Nat} {w0 w : World} {c' : C} (h : CW x n w0 w { x with tv := v } c') : Post w0 w x n c' := ⟨{ x with tv := v }, rfl, rfl, h.a, h.o, fun g hg => .inl (by rw [h.f] at hg; exact hg)⟩
set_option maxRecDepth 100000 in
set_option maxHeartbeats 8000000 in
theorem scommit_any {w : World} {x : X} {n : Nat} {c : C} (h : At w x n c) (hbr : c.broken = false) (hep : 0 ≤ c.ep) (hb : ∀ y ∈ c.table, y ≤ 1023) (hsl : c.slot = 0 ∨ c.slot = 1) (hc : c.d.calls ≤ 3999999999999999900) (ha : c.d.armed ≤ 9223372036854775807) (hol : c.parts.length ≤ 5)
  (hr : needT c.trimF.table.length ≤ (Fm.listF c.m 0).length → c.ep < 1099511627776 → Rt.rightR (c.ep + 1) (c.trimF.table.length : Nat) (Rt.natI ((takeN c.m (needT c.trimF.table.length)).2.map Int.toNat)) ∧ Rt.natI ((takeN c.m (needT c.trimF.table.length)).2.map Int.toNat) = (takeN c.m (needT c.trimF.table.length)).2) :
  Calls Tryz.prog 34 #[sp x.b] w fun e w' => e = .returned (.int .i64 (c.commitF n).2) ∧ Post w w' x n (c.commitF n).1 := by
 have KW := works_any h
 rw [show c.worksF = 0 from by unfold C.worksF; rw [hbr]; rfl] at KW
 have KW := Lib.hid KW
 obtain ⟨R, hR⟩ : ∃ R, c.commitF n = R := ⟨_, rfl⟩
 rw [hR]
 have tl := h.tl
 have HLT := Lib.hid h.lt
 obtain ⟨TA, tc, htv, htc⟩ := h.ht.val
 have hx : x = { x with tv := .slice TA c.table.length tc } := by rw [← htv]
 have HA := Lib.hid (show At w { x with tv := .slice TA c.table.length tc } n { c with table := c.table.take c.table.length } from by rw [List.take_length, ← hx]; exact h)
 have HV := Lib.hid htv
 obtain ⟨T, hT⟩ : ∃ T, trimT c.table c.table.length = T := ⟨_, rfl⟩
 have hTl : T ≤ c.table.length := by rw [← hT]; exact trimT_le _ _
 have htf : c.trimF = { c with table := c.table.take T } := by unfold C.trimF; rw [hT]
 have htl : c.trimF.table.length = T := by rw [htf]; show (c.table.take T).length = T; rw [List.length_take]; omega
 have HT := Lib.hid hT
 unfold C.commitF at hR
 rw [htl] at hR hr
 rw [htf] at hR
 have HR := Lib.hid hR
 clear hR hT htf htl hx htv hbr h
 unfold sp at *
 go_enter Tryz.func34, Tryz.ntmps34
 go_wp2_with fail
 refine KW.out.mono ?_
 rintro e w1 ⟨rfl, rfl⟩
 go_wp2_with fail
 go_loopw [19] (fun _ wr => ∃ k : Nat, k ≤ c.table.length ∧ Hid (trimT c.table k = T) ∧ Hid (At wr { x with tv := .slice TA k tc } n { c with table := c.table.take k } ∧ Only [x.b] w wr)) (fun _ wr => lenAt wr x.b)
 case atStart => exact ⟨c.table.length, Nat.le_refl _, HT, Lib.hid ⟨HA.out, Only.refl _ _⟩⟩
 case round =>
  obtain ⟨k, hk, HK, HB⟩ := hrel
  have f2 := HB.out.1.f2
  have hkl : (c.table.take k).length = k := by rw [List.length_take]; omega
  have hcs : (k ≠ 0 ∧ c.table.getD (k - 1) 0 < 0) ∨ k = T ∧ (k = 0 ∨ ¬ c.table.getD (k - 1) 0 < 0) := by
   have := HK.out
   cases k with
   | zero => exact .inr ⟨this, .inl rfl⟩
   | succ k =>
    rw [trimT_succ] at this
    split at this
    ·rename_i h; exact .inl ⟨by omega, h⟩
    ·rename_i h; exact .inr ⟨this, .inr h⟩
  rcases hcs with ⟨hk0, hneg⟩ | ⟨hkT, hk0⟩
  ·obtain ⟨j, rfl⟩ : ∃ j, k = j + 1 := ⟨k - 1, by omega⟩
   rw [Nat.add_sub_cancel] at hneg
   obtain ⟨g, cp, hv, ck⟩ := HB.out.1.tk j (by show j < (c.table.take (j + 1)).length; omega)
   rw [show ({ c with table := c.table.take (j + 1) } : C).table.getD j 0 = c.table.getD j 0 from by show (c.table.take (j + 1)).getD j 0 = _; simp [List.getD]] at ck
   have hv : (Value.slice TA (j + 1) tc) = .slice (some ⟨g, 0, none⟩) (c.table.take (j + 1)).length cp := hv
   rw [hkl] at hv
   injection hv with e1 e2 e3
   subst e1 e3
   clear e2
   have f2 : wr.cell? ⟨x.b, 2, none⟩ = some (.slice (some ⟨g, 0, none⟩) (j + 1) tc) := f2
   have HK2 := Lib.hid (show trimT c.table j = T from by have := HK.out; rw [trimT_succ, if_pos hneg] at this; exact this)
   have e4 : IntKind.i64.wrap ((j : Int) + 1 - 1) = (j : Int) := by rw [Int.add_sub_cancel]; exact IntWalk.i64_in _ (by omega)
   have e5 : IntKind.i64.wrap (j : Int) = (j : Int) := IntWalk.i64_in _ (by omega)
   have e6 : (0 : Int) < (j : Int) + 1 := by omega
   have e7 : (j : Int) < (j : Int) + 1 := by omega
   generalize c.table.getD j 0 = pv at *
   go_wp2_with fail
   go_quiet (fail)
   have z2 := HB.out.1.fz 2 (by omega)
   have z2 : wr.frozen? ⟨x.b, 2, none⟩ = false := z2
   have HN := Lib.hid (show ∀ m, At ((wr.drewN m).setCell ⟨x.b, 2, none⟩ (.slice (some ⟨g, 0, none⟩) j tc)) { x with tv := .slice (some ⟨g, 0, none⟩) j tc } n { c with table := c.table.take j } ∧ Only [x.b] w ((wr.drewN m).setCell ⟨x.b, 2, none⟩ (.slice (some ⟨g, 0, none⟩) j tc)) from fun m => by
    have A1 := HB.out.1.drewN m
    have hsub : ∀ y ∈ ownS (.slice (some ⟨g, 0, none⟩) j tc), y ∈ ownS (.slice (some ⟨g, 0, none⟩) (j + 1) tc) := fun y hy => hy
    have S := A1.ht
    have S : Sl (wr.drewN m) 3 (.slice (some ⟨g, 0, none⟩) (j + 1) tc) (j + 1) (nvs' (c.table.take (j + 1))) := by have S2 := S; rw [show ({ c with table := c.table.take (j + 1) } : C).table.length = j + 1 from hkl] at S2; exact S2
    have S3 := S.cut rfl j (by omega)
    have e : (nvs' (c.table.take (j + 1))).take j = nvs' (c.table.take j) := by unfold nvs'; rw [← List.map_take, List.take_take, Nat.min_eq_left (by omega)]
    rw [e] at S3
    have hl : (c.table.take j).length = j := by rw [List.length_take]; omega
    have S4 : Sl (wr.drewN m) 3 (.slice (some ⟨g, 0, none⟩) j tc) (c.table.take j).length (nvs' (c.table.take j)) := by rw [hl]; exact S3
    obtain ⟨_, _, A2, o2⟩ := A1.newT S4 (fun hg => A1.n1 (hsub _ hg)) (fun y hy => A1.n4 y (hsub y hy)) (fun y hy => A1.n5 y (hsub y hy)) (by omega)
    exact ⟨A2, (HB.out.2.drewN m).trans o2⟩)
   have HM := Lib.hid (show ∀ m, lenAt ((wr.drewN m).setCell ⟨x.b, 2, none⟩ (.slice (some ⟨g, 0, none⟩) j tc)) x.b < lenAt wr x.b from fun m => by
    have c2 : ((wr.drewN m).setCell ⟨x.b, 2, none⟩ (.slice (some ⟨g, 0, none⟩) j tc)).cell? ⟨x.b, 2, none⟩ = some (.slice (some ⟨g, 0, none⟩) j tc) := (HN.out m).1.f2
    unfold lenAt
    rw [c2, f2]
    show j < j + 1
    omega)
   go_wp2_with fail
   go_region
   go_wp2_with fail
   go_roundw
   case rel => exact ⟨j, by omega, HK2, Lib.hid (HN.out _)⟩
   case measure => exact HM.out _
  ·rcases Nat.eq_zero_or_pos k with hz | hpos
   ·subst hz
    subst hkT
    have hfp : ({ x with tv := .slice TA 0 tc } : X).fp = x.fp := by
     unfold X.fp
     rw [HV.out, ownS_len TA 0 c.table.length tc]
    have KND := Lib.hid (fun (W : World) => Rt.need_any ((0 : Nat) : Int) (by omega) W)
    rw [needF_T] at KND
    have KFR := Lib.hid (fun (W : World) (hW : At W { x with tv := .slice TA 0 tc } n { c with table := c.table.take 0 }) => Fm.free_any hW.hm)
    rw [show ({ c with table := c.table.take 0 } : C).m = c.m from rfl] at KFR
    unfold Fm.mp at KFR
    have f2 : wr.cell? ⟨x.b, 2, none⟩ = some (.slice TA 0 tc) := by have := f2; exact this
    go_wp2_with fail
    go_quiet (fail)
    have C0 := Lib.hid (show CW x n w (wr.drewN nq) { x with tv := .slice TA 0 tc } { c with table := c.table.take 0 } from ⟨HB.out.1.drewN nq, (HB.out.2.drewN nq).mono (fun g hg _ => by simp at hg; subst hg; simp [X.fp]), hfp⟩)
    have f1 := C0.out.a.f1
    have f2 := C0.out.a.f2
    have f5 := C0.out.a.f5
    have f2 : (wr.drewN nq).cell? ⟨x.b, 2, none⟩ = some (.slice TA (c.table.take 0).length tc) := by rw [hkl]; exact f2
    have f1 : (wr.drewN nq).cell? ⟨x.b, 1, none⟩ = some (.pointer (some ⟨x.mb, 0, none⟩)) := f1
    rw [hkl] at f2
    clear hk0
    go_wp2_with fail
    refine (KND.out _).mono ?_
    rintro e v1 ⟨rfl, hb1⟩
    have C1 := Lib.hid (C0.out.below hb1)
    have g1 : v1.cell? ⟨x.b, 1, none⟩ = some (.pointer (some ⟨x.mb, 0, none⟩)) := C1.out.a.f1
    clear hb1 f1 f2 f5
    go_wp2_with fail
    refine (KFR.out _ C1.out.a).mono ?_
    rintro e v2 ⟨rfl, hb2⟩
    have C2 := Lib.hid (C1.out.below hb2)
    have f5 := C2.out.a.f5
    have f5 : v2.cell? ⟨x.b, 5, none⟩ = some (.int .i64 c.ep) := f5
    clear hb2 g1
    by_cases hfr : (Fm.listF c.m 0).length < needT 0
    ·have hI : ((Fm.listF c.m 0).length : Int) < ((needT 0 : Nat) : Int) := by omega
     have HR2 := HR.out
     rw [if_pos hfr] at HR2
     subst HR2
     generalize needT 0 = nd at *
     go_wp2_with fail
     go_ret
     exact ⟨by first | rfl | simp, C2.out.post⟩
    have hI : ¬ ((Fm.listF c.m 0).length : Int) < ((needT 0 : Nat) : Int) := by omega
    by_cases hee : 1099511627776 ≤ c.ep
    ·have HR2 := HR.out
     rw [if_neg hfr, if_pos hee] at HR2
     subst HR2
     generalize needT 0 = nd at *
     go_wp2_with fail
     go_ret
     exact ⟨by first | rfl | simp, C2.out.post⟩
    have HR2 := HR.out
    rw [if_neg hfr, if_neg hee] at HR2
    obtain ⟨hrr, hnn⟩ := hr (by omega) (by omega)
    have hkl2 : 0 ≤ 512 := by omega
    have hnd5 : needT 0 ≤ 5 := by unfold needT; omega
    have hm1024 := C2.out.a.hm.hl
    have HR3 := Lib.hid HR2
    clear HR2 hfr hr
    obtain ⟨nd, hnd⟩ : ∃ nd, needT 0 = nd := ⟨_, rfl⟩
    rw [hnd] at hI hrr hnn HR3 hnd5 ⊢
    clear hnd
    have hd1 : decide (((Fm.listF c.m 0).length : Int) < (nd : Int)) = false := by rw [decide_eq_false_iff_not]; exact hI
    have hd3 : decide ((Fm.listF c.m 0).length < nd) = false := by rw [decide_eq_false_iff_not]; omega
    have hd2 : decide ((1099511627776 : Int) ≤ c.ep) = false := by rw [decide_eq_false_iff_not]; omega
    have PNL := Lib.hid (fun i => takeN_len c.m i)
    go_wp2_with fail
    go_loopw [5, 6, 7, 72] (fun pv _ _ iv wq => ∃ i : Nat, i ≤ nd ∧ iv = .int .i64 i ∧ Slc wq 3 1 pv i (nvs' (takeN c.m i).2) ∧ Hid (CW x n w wq { x with tv := .slice TA 0 tc } { c with table := c.table.take 0, m := (takeN c.m i).1 } ∧ ∀ g ∈ ownB pv, w.heap.size ≤ g)) (fun _ _ _ iv _ => nd - (intOf iv).toNat)
    case atStart => exact ⟨0, Nat.zero_le _, rfl, Slc.nil _ _ _, Lib.hid ⟨C2.out, by simp [ownB]⟩⟩
    case round =>
     obtain ⟨i, hi, rfl, S, HC⟩ := hrel
     obtain ⟨VA, vc, rfl⟩ := slc_val S
     by_cases h' : i < nd
     ·have hiI : (i : Int) < (nd : Int) := by omega
      have g1 : wr.cell? ⟨x.b, 1, none⟩ = some (.pointer (some ⟨x.mb, 0, none⟩)) := HC.out.1.a.f1
      have KT := Lib.hid (Fm.take_any HC.out.1.a.hm)
      have HM := Lib.hid (fun (W : World) (mm : Fm.MapAt W x.mb x.mg (Fm.takeF (takeN c.m i).1).1) (ow : Only [x.mg] wr W) => HC.out.1.a.map mm ow)
      have HTK := Lib.hid (show takeN c.m (i + 1) = ((Fm.takeF (takeN c.m i).1).1, (takeN c.m i).2 ++ [(Fm.takeF (takeN c.m i).1).2.1]) from rfl)
      rw [show ({ c with table := c.table.take 0, m := (takeN c.m i).1 } : C).m = (takeN c.m i).1 from rfl] at KT
      generalize Fm.takeF (takeN c.m i).1 = tf at *
      obtain ⟨tm, tid, te⟩ := tf
      dsimp only at KT
      unfold Fm.mp at KT
      go_wp2_with fail
      refine KT.out.mono ?_
      rintro e v3 ⟨rfl, mm, ow⟩
      have A3 := HM.out _ mm ow
      have s3 := S.only ow (fun g hg hm => by have := HC.out.2 g hg; have := HLT.out x.mg (by simp [X.fp]); simp at hm; omega)
      obtain ⟨v', w4, ea, S4, ow4, fr4⟩ := append_one (P := Tryz.prog) s3 52 52 (.int .i64 0) 8 Tryz.underlying52 info_int2 rfl (.int .i64 tid) rfl (by unfold maxLen; omega) (by omega)
      obtain ⟨V4, c4, rfl⟩ := slc_val S4
      have H4 := Lib.hid (show Slc w4 3 1 (.slice V4 (i + 1) c4) (i + 1) (nvs' (takeN c.m (i + 1)).2) ∧ CW x n w w4 { x with tv := .slice TA 0 tc } { c with table := c.table.take 0, m := (takeN c.m (i + 1)).1 } ∧ ∀ g ∈ ownB (.slice V4 (i + 1) c4), w.heap.size ≤ g from by
       rw [HTK.out]
       refine ⟨by rw [nvs'_append]; exact S4, ⟨A3.only ow4 (fun g hF hg => by have := HC.out.2 g hg; have := HLT.out g (by rw [hfp] at hF; exact hF); omega), (HC.out.1.o.trans (ow.mono (fun g hg _ => mg_fp x g hg))).trans_of ow4 (fun g hg hlt => by have := HC.out.2 g hg; omega), hfp⟩, fun g hg => (fr4 g hg).elim (HC.out.2 g) (fun h => by have := HC.out.1.o.size; have := ow.size; omega)⟩)
      have EA := Lib.hid ea
      clear ea S4 ow4 fr4 s3 A3 mm ow S g1
      go_wp2_with fail
      rw [EA.out]
      go_wp2_with fail
      go_roundw
      case rel => exact ⟨i + 1, by omega, by go_num, H4.out.1, Lib.hid H4.out.2⟩
      case measure => simp [intOf]; omega
     ·obtain rfl : i = nd := by omega
      have hpl : (Rt.natI ((takeN c.m i).2.map Int.toNat)).length = i := by rw [hnn]; exact PNL.out i
      have hown : ownS (.slice VA i vc) = [] ∨ ownS (.slice VA i vc) = ownB (.slice VA i vc) := by
       cases VA with
       | none => exact .inl rfl
       | some a => unfold ownS ownB; by_cases h0 : vc = 0 <;> simp [h0]
      have hsub : ∀ g ∈ ownS (.slice VA i vc), w.heap.size ≤ g := fun g hg => by
       rcases hown with h | h
       ·rw [h] at hg; simp at hg
       ·rw [h] at hg; exact HC.out.2 g hg
      have hic : i ≤ vc := by
       obtain ⟨A', c', e, hle⟩ := (Sl.of_slc S).val
       injection e with _ _ e3
       omega
      have SP : Sl wr 3 (.slice VA i vc) i (nvs' (Rt.natI ((takeN c.m i).2.map Int.toNat))) := by rw [hnn]; exact Sl.of_slc S
      have KL := lay_any HC.out.1.a ((takeN c.m i).2.map Int.toNat) SP hic (fun g hg hF => by have := hsub g hg; have := HLT.out g (by rw [hfp] at hF; exact hF); omega) (show Rt.rightR (c.ep + 1) ((c.table.take 0).length : Nat) _ from by rw [hkl]; exact hrr) (fun y hy => hb y (List.mem_of_mem_take hy)) hsl hc ha
      have HR4 := HR3.out
      have KL := Lib.hid KL
      generalize hlf : ({ c with table := c.table.take 0, m := (takeN c.m i).1 } : C).layF n ((takeN c.m i).2.map Int.toNat) = lf at *
      obtain ⟨ld, le⟩ := lf
      dsimp only at KL HR4
      by_cases hle : le = 0
      ·subst hle
       rw [if_neg (by simp)] at HR4
       subst HR4
       clear hlf
       obtain ⟨PA, pc, hpv, hpcc⟩ := HC.out.1.a.hp.val
       have hpv : x.pv = .slice PA c.parts.length pc := hpv
       have HPV := Lib.hid hpv
       unfold sp at KL
       go_wp2_with fail
       refine KL.out.mono ?_
       rintro e v3 ⟨rfl, A3, o3⟩
       have C3 := Lib.hid (show CW x n w v3 { x with tv := .slice TA 0 tc } { c with table := c.table.take 0, m := leaveAll (takeN c.m i).1 (c.parts.take 0), d := ld } from ⟨by rw [List.take_zero]; exact A3, HC.out.1.o.trans (o3.mono (fun g hg _ => L_fp x g hg)), hfp⟩)
       have SP3 := Lib.hid (show Sl v3 3 (.slice VA i vc) i (nvs' (takeN c.m i).2) from (Sl.of_slc S).only o3 (fun g hg hF => by have := hsub g hg; have := HLT.out g (L_fp x g hF); omega))
       have q4 : v3.cell? ⟨x.b, 4, none⟩ = some (.slice PA c.parts.length pc) := by rw [← HPV.out]; exact C3.out.a.f4
       clear A3 o3 hpv
       go_wp2_with fail
       go_loopw [10, 101] (fun _ iv wr => ∃ j : Nat, j ≤ c.parts.length ∧ iv = .int .i64 j ∧ Hid (CW x n w wr { x with tv := .slice TA 0 tc } { c with table := c.table.take 0, m := leaveAll (takeN c.m i).1 (c.parts.take j), d := ld }) ∧ Hid (Sl wr 3 (.slice VA i vc) i (nvs' (takeN c.m i).2))) (fun _ iv _ => c.parts.length - (intOf iv).toNat)
       case atStart => exact ⟨0, Nat.zero_le _, rfl, C3, SP3⟩
       case round =>
        obtain ⟨j, hj, rfl, HC4, SP4⟩ := hrel
        by_cases h' : j < c.parts.length
        ·have hjI : (j : Int) < (c.parts.length : Int) := by omega
         obtain ⟨g, cp, rest, hv, ⟨_, B⟩, _, _⟩ := HC4.out.a.hp.form (by show 0 < c.parts.length; omega)
         have hv : x.pv = .slice (some ⟨g, 0, none⟩) c.parts.length cp := hv
         rw [HPV.out] at hv
         injection hv with e1 e2 e3
         subst e1 e3
         clear e2
         have cj : wr.cell? ⟨g, j, none⟩ = some (.int .i64 (c.parts.getD j 0)) := B.cell_some (by rw [List.getElem?_toArray, List.getElem?_append_left (by simpa using h'), nvs'_get _ _ h'])
         have g1 : wr.cell? ⟨x.b, 1, none⟩ = some (.pointer (some ⟨x.mb, 0, none⟩)) := HC4.out.a.f1
         have hlv : leaveAll (takeN c.m i).1 (c.parts.take (j + 1)) = (Fm.leaveF (leaveAll (takeN c.m i).1 (c.parts.take j)) (c.parts.getD j 0)).1 := by
          rw [List.take_succ_eq_append_getElem h', leaveAll_app]
          simp [leaveAll, List.getD, List.getElem?_eq_getElem h']
         have KLV := Lib.hid (Fm.leave_any HC4.out.a.hm (c.parts.getD j 0))
         rw [show ({ c with table := c.table.take 0, m := leaveAll (takeN c.m i).1 (c.parts.take j), d := ld } : C).m = leaveAll (takeN c.m i).1 (c.parts.take j) from rfl, ← hlv] at KLV
         have HM := Lib.hid (fun (W : World) (mm : Fm.MapAt W x.mb x.mg (leaveAll (takeN c.m i).1 (c.parts.take (j + 1)))) (ow : Only [x.mg] wr W) => HC4.out.a.map mm ow)
         generalize (Fm.leaveF (leaveAll (takeN c.m i).1 (c.parts.take j)) (c.parts.getD j 0)).2 = lq at *
         generalize c.parts.getD j 0 = pj at *
         unfold Fm.mp at KLV
         clear hlv B
         go_wp2_with fail
         refine KLV.out.mono ?_
         rintro e v4 ⟨rfl, mm, ow⟩
         have C5 := Lib.hid (show CW x n w v4 { x with tv := .slice TA 0 tc } { c with table := c.table.take 0, m := leaveAll (takeN c.m i).1 (c.parts.take (j + 1)), d := ld } from ⟨HM.out _ mm ow, HC4.out.o.trans (ow.mono (fun g hg _ => mg_fp x g hg)), hfp⟩)
         have SP5 := Lib.hid (SP4.out.only ow (fun g hg hm => by have := hsub g hg; have := HLT.out x.mg (by simp [X.fp]); simp at hm; omega))
         clear mm ow
         go_wp2_with fail
         go_roundw
         case rel => exact ⟨j + 1, by omega, by go_num, C5, SP5⟩
         case measure => simp [intOf]; omega
        ·obtain rfl : j = c.parts.length := by omega
         have g1 : wr.cell? ⟨x.b, 1, none⟩ = some (.pointer (some ⟨x.mb, 0, none⟩)) := HC4.out.a.f1
         rw [List.take_length] at HC4
         have KCM := Lib.hid (Fm.commit_any HC4.out.a.hm)
         rw [show ({ c with table := c.table.take 0, m := leaveAll (takeN c.m i).1 c.parts, d := ld } : C).m = leaveAll (takeN c.m i).1 c.parts from rfl] at KCM
         have HM := Lib.hid (fun (W : World) (mm : Fm.MapAt W x.mb x.mg (Fm.turnF 0 1 (leaveAll (takeN c.m i).1 c.parts))) (ow : Only [x.mg] wr W) => HC4.out.a.map mm ow)
         unfold Fm.mp at KCM
         go_wp2_with fail
         refine KCM.out.mono ?_
         rintro e v6 ⟨rfl, mm, ow⟩
         have C6 := Lib.hid (show CW x n w v6 { x with tv := .slice TA 0 tc } { c with table := c.table.take 0, m := Fm.turnF 0 1 (leaveAll (takeN c.m i).1 c.parts), d := ld } from ⟨HM.out _ mm ow, HC4.out.o.trans (ow.mono (fun g hg _ => mg_fp x g hg)), hfp⟩)
         have SP6 := Lib.hid (SP4.out.only ow (fun g hg hm => by have := hsub g hg; have := HLT.out x.mg (by simp [X.fp]); simp at hm; omega))
         have KC := Lib.hid (fun (W : World) (hW : At W { x with tv := .slice TA 0 tc } n { c with table := c.table.take 0, m := Fm.turnF 0 1 (leaveAll (takeN c.m i).1 c.parts), d := ld }) => clone_sl (v := .slice TA 0 tc) hW.ht (by show (c.table.take 0).length ≤ 100000; omega))
         have e8 : IntKind.i64.wrap (c.ep + 1) = c.ep + 1 := IntWalk.i64_in _ (by omega)
         have e9 : IntKind.i64.wrap (1 - c.slot) = 1 - c.slot := IntWalk.i64_in _ (by omega)
         have d2 : v6.cell? ⟨x.b, 2, none⟩ = some (.slice TA 0 tc) := C6.out.a.f2
         have d5 : v6.cell? ⟨x.b, 5, none⟩ = some (.int .i64 c.ep) := C6.out.a.f5
         have d6 : v6.cell? ⟨x.b, 6, none⟩ = some (.int .i64 c.slot) := C6.out.a.f6
         have HNC := Lib.hid (show ∀ v7 vo, Sl v7 3 vo (c.table.take 0).length (nvs' (c.table.take 0)) → Below v6.drew.heap.size v6.drew v7 → (∀ g ∈ ownS vo, v6.drew.heap.size ≤ g) →
           Post w ((((v7.setCell ⟨x.b, 3, none⟩ vo).setCell ⟨x.b, 4, none⟩ (.slice VA i vc)).setCell ⟨x.b, 5, none⟩ (.int .i64 (c.ep + 1))).setCell ⟨x.b, 6, none⟩ (.int .i64 (1 - c.slot))) x n
            { c with table := c.table.take 0, m := Fm.turnF 0 1 (leaveAll (takeN c.m i).1 c.parts), d := ld, old := c.table.take 0, parts := (takeN c.m i).2, ep := c.ep + 1, slot := 1 - c.slot } from fun v7 vo S7 hb7 fr7 => by
          have A7 := C6.out.a.drew.below hb7
          have SP7 : Sl v7 3 (.slice VA i vc) (takeN c.m i).2.length (nvs' (takeN c.m i).2) := by rw [PNL.out]; exact SP6.out.drew.below hb7
          have hfpl : ∀ g ∈ ({ x with tv := .slice TA 0 tc } : X).fp, g < w.heap.size := fun g hg => HLT.out g (by rw [hfp] at hg; exact hg)
          have hws : w.heap.size ≤ v6.drew.heap.size := C6.out.o.size
          obtain ⟨A8, o8⟩ := A7.newC S7 SP7 (fun g hg hF => by have := fr7 g hg; have := hfpl g hF; omega) (fun g hg hF => by have := hsub g hg; have := hfpl g hF; omega) (fun g hg hp => by have := fr7 g hg; have : g < v6.drew.heap.size := SP6.out.lt g hp; omega) (c.ep + 1) (1 - c.slot)
          refine ⟨{ x with tv := .slice TA 0 tc, ov := vo, pv := .slice VA i vc }, rfl, rfl, A8, ((C6.out.o.drew).trans (.of_below hb7)).trans (o8.mono (fun g hg _ => by simp at hg; subst hg; simp [X.fp])), fun g hg => ?_⟩
          have hin : g ∈ ({ x with tv := .slice TA 0 tc } : X).fp ∨ g ∈ ownS vo ∨ g ∈ ownS (.slice VA i vc) := by
           simp only [X.fp, List.mem_cons, List.mem_append] at hg ⊢
           rcases hg with hg | hg | hg | ((hg | hg) | hg) | hg
           ·exact .inl (.inl hg)
           ·exact .inl (.inr (.inl hg))
           ·exact .inl (.inr (.inr (.inl hg)))
           ·exact .inl (.inr (.inr (.inr (.inl (.inl (.inl hg))))))
           ·exact .inl (.inr (.inr (.inr (.inl (.inl (.inr hg))))))
           ·exact .inr (.inl hg)
           ·exact .inr (.inr hg)
          rcases hin with h | h | h
          ·exact .inl (by rw [hfp] at h; exact h)
          ·exact .inr (Nat.le_trans hws (fr7 g h))
          ·exact .inr (hsub g h))
         clear mm ow g1
         go_wp2_with fail
         refine wp_region_held_drew (S := fun _ => True) (by kernel_rfl) (trivial) (fun hHeld => ?_)
         refine zpl [(0,117),(1,118),(2,119),(3,120),(4,121),(5,122),(6,123),(9,126),(10,127),(11,128),(12,129),(15,132),(16,133),(17,134)] ?_
         iterate 14 (refine ztp (v := ?_) rfl (by kernel_rfl) (fun _ _ _ h => h) (by assumption) ?_ ?_; rotate_left; (·intro w hS; (try dsimp only at hS); go_simp; try with_reducible rfl); try simp only [Act.put, pa, pb, pc])
         refine zpe ?_
         refine wpAnyH_ready (rs := [7, 13, 18]) (by kernel_rfl) (by simp) ?_
         refine AllReadyH.cons (o := ⟨some 124, _, _, _, _, _⟩) rfl (fun K hK => ?_) (AllReadyH.cons (o := ⟨some 130, _, _, _, _, _⟩) rfl (fun K hK => ?_) (AllReadyH.cons (o := ⟨some 135, _, _, _, _, _⟩) rfl (fun K hK => ?_) AllReadyH.nil))
         ·skip
          go_simp
          have gd := d2
          go_simp
          clear gd
          refine hK.out _ _ (trivial) (fun hHeld => ?_)
          try simp only [Act.put, pa, pb, pc]
          refine wpAnyH_ready (rs := [8, 13, 18]) (by kernel_rfl) (by simp) ?_
          refine AllReadyH.cons (o := ⟨some 125, _, _, _, _, _⟩) rfl (fun K hK => ?_) (AllReadyH.cons (o := ⟨some 130, _, _, _, _, _⟩) rfl (fun K hK => ?_) (AllReadyH.cons (o := ⟨some 135, _, _, _, _, _⟩) rfl (fun K hK => ?_) AllReadyH.nil))
          ·skip
           go_simp
           go_at_call 80
           refine (KC.out _ C6.out.a.drew).mono ?_
           rintro e v7 ⟨vo, rfl, S7, hb7, fr7⟩
           have A7 := Lib.hid (C6.out.a.drew.below hb7)
           have PX := Lib.hid (HNC.out v7 vo S7 hb7 fr7)
           obtain ⟨V7, c7, rfl, _⟩ := S7.val
           have h5 : v7.cell? ⟨x.b, 5, none⟩ = some (.int .i64 c.ep) := A7.out.f5
           have h6 : v7.cell? ⟨x.b, 6, none⟩ = some (.int .i64 c.slot) := A7.out.f6
           have h3 := A7.out.hb.cell_some (i := 3) rfl
           have h4 := A7.out.hb.cell_some (i := 4) rfl
           have z3 : v7.frozen? ⟨x.b, 3, none⟩ = false := A7.out.fz 3 (by omega)
           have z4 : v7.frozen? ⟨x.b, 4, none⟩ = false := A7.out.fz 4 (by omega)
           have z5 : v7.frozen? ⟨x.b, 5, none⟩ = false := A7.out.fz 5 (by omega)
           have z6 : v7.frozen? ⟨x.b, 6, none⟩ = false := A7.out.fz 6 (by omega)
           have h3 : v7.cell? ⟨x.b, 3, none⟩ = some x.ov := h3
           have h4 : v7.cell? ⟨x.b, 4, none⟩ = some x.pv := h4
           clear S7 hb7 fr7
           go_simp
           refine hK.out _ _ (trivial) (fun hHeld => ?_)
           try simp only [Act.put, pa, pb, pc]
           refine wpAnyH_ready (rs := [13, 18]) (by kernel_rfl) (by simp) ?_
           refine AllReadyH.cons (o := ⟨some 130, _, _, _, _, _⟩) rfl (fun K hK => ?_) (AllReadyH.cons (o := ⟨some 135, _, _, _, _, _⟩) rfl (fun K hK => ?_) AllReadyH.nil)
           ·skip
            go_simp
            have gd := h5
            go_simp
            clear gd
            refine hK.out _ _ (trivial) (fun hHeld => ?_)
            try simp only [Act.put, pa, pb, pc]
            refine zpl [(14,131)] ?_
            iterate 1 (refine ztp (v := ?_) rfl (by kernel_rfl) (fun _ _ _ h => h) (by assumption) ?_ ?_; rotate_left; (·intro w hS; (try dsimp only at hS); go_simp; try with_reducible rfl); try simp only [Act.put, pa, pb, pc])
            refine zpe ?_
            refine wpAnyH_ready (rs := [18]) (by kernel_rfl) (by simp) ?_
            refine AllReadyH.cons (o := ⟨some 135, _, _, _, _, _⟩) rfl (fun K hK => ?_) AllReadyH.nil
            go_simp
            have gd := h6
            go_simp
            clear gd
            refine hK.out _ _ (trivial) (fun hHeld => ?_)
            try simp only [Act.put, pa, pb, pc]
            refine zpl [(19,136),(20,137),(21,138)] ?_
            iterate 3 (refine ztp (v := ?_) rfl (by kernel_rfl) (fun _ _ _ h => h) (by assumption) ?_ ?_; rotate_left; (·intro w hS; (try dsimp only at hS); go_simp; try with_reducible rfl); try simp only [Act.put, pa, pb, pc])
            refine zpe ?_
            refine wpAnyH_ready (rs := [22]) (by kernel_rfl) (by simp) ?_
            refine AllReadyH.cons (o := ⟨none, _, _, _, _, _⟩) rfl (fun K hK => ?_) AllReadyH.nil
            go_simp
            refine hK.out _ _ (trivial) (fun hHeld => ?_)
            try simp only [Act.put, pa, pb, pc]
            refine zpl [(23,139),(24,140)] ?_
            iterate 2 (refine ztp (v := ?_) rfl (by kernel_rfl) (fun _ _ _ h => h) (by assumption) ?_ ?_; rotate_left; (·intro w hS; (try dsimp only at hS); go_simp; try with_reducible rfl); try simp only [Act.put, pa, pb, pc])
            refine zpe ?_
            refine wpAnyH_ready (rs := [25]) (by kernel_rfl) (by simp) ?_
            refine AllReadyH.cons (o := ⟨none, _, _, _, _, _⟩) rfl (fun K hK => ?_) AllReadyH.nil
            go_simp
            refine hK.out _ _ (trivial) (fun hHeld => ?_)
            try simp only [Act.put, pa, pb, pc]
            refine zpl [(26,141),(27,142)] ?_
            iterate 2 (refine ztp (v := ?_) rfl (by kernel_rfl) (fun _ _ _ h => h) (by assumption) ?_ ?_; rotate_left; (·intro w hS; (try dsimp only at hS); go_simp; try with_reducible rfl); try simp only [Act.put, pa, pb, pc])
            refine zpe ?_
            refine wpAnyH_ready (rs := [28]) (by kernel_rfl) (by simp) ?_
            refine AllReadyH.cons (o := ⟨none, _, _, _, _, _⟩) rfl (fun K hK => ?_) AllReadyH.nil
            go_simp
            refine hK.out _ _ (trivial) (fun hHeld => ?_)
            try simp only [Act.put, pa, pb, pc]
            refine zpl [(29,143),(30,144)] ?_
            iterate 2 (refine ztp (v := ?_) rfl (by kernel_rfl) (fun _ _ _ h => h) (by assumption) ?_ ?_; rotate_left; (·intro w hS; (try dsimp only at hS); go_simp; try with_reducible rfl); try simp only [Act.put, pa, pb, pc])
            refine zpe ?_
            refine wpAnyH_ready (rs := [31]) (by kernel_rfl) (by simp) ?_
            refine AllReadyH.cons (o := ⟨none, _, _, _, _, _⟩) rfl (fun K hK => ?_) AllReadyH.nil
            go_simp
            refine hK.out _ _ (trivial) (fun hHeld => ?_)
            try simp only [Act.put, pa, pb, pc]
            refine wpAnyH_done (by kernel_rfl) ?_ _
            go_wp2_with fail
            go_ret
            first
             | exact ⟨by first | rfl | simp, PX.out⟩
             | exact ⟨by first | rfl | simp, by have q := PX.out; rw [hkl] at q; exact q⟩
           ·skip
            go_simp
            have gd := h6
            go_simp
            clear gd
            refine hK.out _ _ (trivial) (fun hHeld => ?_)
            try simp only [Act.put, pa, pb, pc]
            refine zpl [(19,136)] ?_
            iterate 1 (refine ztp (v := ?_) rfl (by kernel_rfl) (fun _ _ _ h => h) (by assumption) ?_ ?_; rotate_left; (·intro w hS; (try dsimp only at hS); go_simp; try with_reducible rfl); try simp only [Act.put, pa, pb, pc])
            refine zpe ?_
            refine wpAnyH_ready (rs := [13]) (by kernel_rfl) (by simp) ?_
            refine AllReadyH.cons (o := ⟨some 130, _, _, _, _, _⟩) rfl (fun K hK => ?_) AllReadyH.nil
            go_simp
            have gd := h5
            go_simp
            clear gd
            refine hK.out _ _ (trivial) (fun hHeld => ?_)
            try simp only [Act.put, pa, pb, pc]
            refine zpl [(14,131),(20,137),(21,138)] ?_
            iterate 3 (refine ztp (v := ?_) rfl (by kernel_rfl) (fun _ _ _ h => h) (by assumption) ?_ ?_; rotate_left; (·intro w hS; (try dsimp only at hS); go_simp; try with_reducible rfl); try simp only [Act.put, pa, pb, pc])
            refine zpe ?_
            refine wpAnyH_ready (rs := [22]) (by kernel_rfl) (by simp) ?_
            refine AllReadyH.cons (o := ⟨none, _, _, _, _, _⟩) rfl (fun K hK => ?_) AllReadyH.nil
            go_simp
            refine hK.out _ _ (trivial) (fun hHeld => ?_)
            try simp only [Act.put, pa, pb, pc]
            refine zpl [(23,139),(24,140)] ?_
            iterate 2 (refine ztp (v := ?_) rfl (by kernel_rfl) (fun _ _ _ h => h) (by assumption) ?_ ?_; rotate_left; (·intro w hS; (try dsimp only at hS); go_simp; try with_reducible rfl); try simp only [Act.put, pa, pb, pc])
            refine zpe ?_
            refine wpAnyH_ready (rs := [25]) (by kernel_rfl) (by simp) ?_
            refine AllReadyH.cons (o := ⟨none, _, _, _, _, _⟩) rfl (fun K hK => ?_) AllReadyH.nil
            go_simp
            refine hK.out _ _ (trivial) (fun hHeld => ?_)
            try simp only [Act.put, pa, pb, pc]
            refine zpl [(26,141),(27,142)] ?_
            iterate 2 (refine ztp (v := ?_) rfl (by kernel_rfl) (fun _ _ _ h => h) (by assumption) ?_ ?_; rotate_left; (·intro w hS; (try dsimp only at hS); go_simp; try with_reducible rfl); try simp only [Act.put, pa, pb, pc])
            refine zpe ?_
            refine wpAnyH_ready (rs := [28]) (by kernel_rfl) (by simp) ?_
            refine AllReadyH.cons (o := ⟨none, _, _, _, _, _⟩) rfl (fun K hK => ?_) AllReadyH.nil
            go_simp
            refine hK.out _ _ (trivial) (fun hHeld => ?_)
            try simp only [Act.put, pa, pb, pc]
            refine zpl [(29,143),(30,144)] ?_
            iterate 2 (refine ztp (v := ?_) rfl (by kernel_rfl) (fun _ _ _ h => h) (by assumption) ?_ ?_; rotate_left; (·intro w hS; (try dsimp only at hS); go_simp; try with_reducible rfl); try simp only [Act.put, pa, pb, pc])
            refine zpe ?_
            refine wpAnyH_ready (rs := [31]) (by kernel_rfl) (by simp) ?_
            refine AllReadyH.cons (o := ⟨none, _, _, _, _, _⟩) rfl (fun K hK => ?_) AllReadyH.nil
            go_simp
            refine hK.out _ _ (trivial) (fun hHeld => ?_)
            try simp only [Act.put, pa, pb, pc]
            refine wpAnyH_done (by kernel_rfl) ?_ _
            go_wp2_with fail
            go_ret
            first
             | exact ⟨by first | rfl | simp, PX.out⟩
             | exact ⟨by first | rfl | simp, by have q := PX.out; rw [hkl] at q; exact q⟩
          ·skip
           go_simp
           have gd := d5
           go_simp
           clear gd
           refine hK.out _ _ (trivial) (fun hHeld => ?_)
           try simp only [Act.put, pa, pb, pc]
           refine zpl [(14,131)] ?_
           iterate 1 (refine ztp (v := ?_) rfl (by kernel_rfl) (fun _ _ _ h => h) (by assumption) ?_ ?_; rotate_left; (·intro w hS; (try dsimp only at hS); go_simp; try with_reducible rfl); try simp only [Act.put, pa, pb, pc])
           refine zpe ?_
           refine wpAnyH_ready (rs := [8, 18]) (by kernel_rfl) (by simp) ?_
           refine AllReadyH.cons (o := ⟨some 125, _, _, _, _, _⟩) rfl (fun K hK => ?_) (AllReadyH.cons (o := ⟨some 135, _, _, _, _, _⟩) rfl (fun K hK => ?_) AllReadyH.nil)
           ·skip
            go_simp
            go_at_call 80
            refine (KC.out _ C6.out.a.drew).mono ?_
            rintro e v7 ⟨vo, rfl, S7, hb7, fr7⟩
            have A7 := Lib.hid (C6.out.a.drew.below hb7)
            have PX := Lib.hid (HNC.out v7 vo S7 hb7 fr7)
            obtain ⟨V7, c7, rfl, _⟩ := S7.val
            have h5 : v7.cell? ⟨x.b, 5, none⟩ = some (.int .i64 c.ep) := A7.out.f5
            have h6 : v7.cell? ⟨x.b, 6, none⟩ = some (.int .i64 c.slot) := A7.out.f6
            have h3 := A7.out.hb.cell_some (i := 3) rfl
            have h4 := A7.out.hb.cell_some (i := 4) rfl
            have z3 : v7.frozen? ⟨x.b, 3, none⟩ = false := A7.out.fz 3 (by omega)
            have z4 : v7.frozen? ⟨x.b, 4, none⟩ = false := A7.out.fz 4 (by omega)
            have z5 : v7.frozen? ⟨x.b, 5, none⟩ = false := A7.out.fz 5 (by omega)
            have z6 : v7.frozen? ⟨x.b, 6, none⟩ = false := A7.out.fz 6 (by omega)
            have h3 : v7.cell? ⟨x.b, 3, none⟩ = some x.ov := h3
            have h4 : v7.cell? ⟨x.b, 4, none⟩ = some x.pv := h4
            clear S7 hb7 fr7
            go_simp
            refine hK.out _ _ (trivial) (fun hHeld => ?_)
            try simp only [Act.put, pa, pb, pc]
            refine wpAnyH_ready (rs := [18]) (by kernel_rfl) (by simp) ?_
            refine AllReadyH.cons (o := ⟨some 135, _, _, _, _, _⟩) rfl (fun K hK => ?_) AllReadyH.nil
            go_simp
            have gd := h6
            go_simp
            clear gd
            refine hK.out _ _ (trivial) (fun hHeld => ?_)
            try simp only [Act.put, pa, pb, pc]
            refine zpl [(19,136),(20,137),(21,138)] ?_
            iterate 3 (refine ztp (v := ?_) rfl (by kernel_rfl) (fun _ _ _ h => h) (by assumption) ?_ ?_; rotate_left; (·intro w hS; (try dsimp only at hS); go_simp; try with_reducible rfl); try simp only [Act.put, pa, pb, pc])
            refine zpe ?_
            refine wpAnyH_ready (rs := [22]) (by kernel_rfl) (by simp) ?_
            refine AllReadyH.cons (o := ⟨none, _, _, _, _, _⟩) rfl (fun K hK => ?_) AllReadyH.nil
            go_simp
            refine hK.out _ _ (trivial) (fun hHeld => ?_)
            try simp only [Act.put, pa, pb, pc]
            refine zpl [(23,139),(24,140)] ?_
            iterate 2 (refine ztp (v := ?_) rfl (by kernel_rfl) (fun _ _ _ h => h) (by assumption) ?_ ?_; rotate_left; (·intro w hS; (try dsimp only at hS); go_simp; try with_reducible rfl); try simp only [Act.put, pa, pb, pc])
            refine zpe ?_
            refine wpAnyH_ready (rs := [25]) (by kernel_rfl) (by simp) ?_
            refine AllReadyH.cons (o := ⟨none, _, _, _, _, _⟩) rfl (fun K hK => ?_) AllReadyH.nil
            go_simp
            refine hK.out _ _ (trivial) (fun hHeld => ?_)
            try simp only [Act.put, pa, pb, pc]
            refine zpl [(26,141),(27,142)] ?_
            iterate 2 (refine ztp (v := ?_) rfl (by kernel_rfl) (fun _ _ _ h => h) (by assumption) ?_ ?_; rotate_left; (·intro w hS; (try dsimp only at hS); go_simp; try with_reducible rfl); try simp only [Act.put, pa, pb, pc])
            refine zpe ?_
            refine wpAnyH_ready (rs := [28]) (by kernel_rfl) (by simp) ?_
            refine AllReadyH.cons (o := ⟨none, _, _, _, _, _⟩) rfl (fun K hK => ?_) AllReadyH.nil
            go_simp
            refine hK.out _ _ (trivial) (fun hHeld => ?_)
            try simp only [Act.put, pa, pb, pc]
            refine zpl [(29,143),(30,144)] ?_
            iterate 2 (refine ztp (v := ?_) rfl (by kernel_rfl) (fun _ _ _ h => h) (by assumption) ?_ ?_; rotate_left; (·intro w hS; (try dsimp only at hS); go_simp; try with_reducible rfl); try simp only [Act.put, pa, pb, pc])
            refine zpe ?_
            refine wpAnyH_ready (rs := [31]) (by kernel_rfl) (by simp) ?_
            refine AllReadyH.cons (o := ⟨none, _, _, _, _, _⟩) rfl (fun K hK => ?_) AllReadyH.nil
            go_simp
            refine hK.out _ _ (trivial) (fun hHeld => ?_)
            try simp only [Act.put, pa, pb, pc]
            refine wpAnyH_done (by kernel_rfl) ?_ _
            go_wp2_with fail
            go_ret
            first
             | exact ⟨by first | rfl | simp, PX.out⟩
             | exact ⟨by first | rfl | simp, by have q := PX.out; rw [hkl] at q; exact q⟩
           ·skip
            go_simp
            have gd := d6
            go_simp
            clear gd
            refine hK.out _ _ (trivial) (fun hHeld => ?_)
            try simp only [Act.put, pa, pb, pc]
            refine zpl [(19,136)] ?_
            iterate 1 (refine ztp (v := ?_) rfl (by kernel_rfl) (fun _ _ _ h => h) (by assumption) ?_ ?_; rotate_left; (·intro w hS; (try dsimp only at hS); go_simp; try with_reducible rfl); try simp only [Act.put, pa, pb, pc])
            refine zpe ?_
            refine wpAnyH_ready (rs := [8]) (by kernel_rfl) (by simp) ?_
            refine AllReadyH.cons (o := ⟨some 125, _, _, _, _, _⟩) rfl (fun K hK => ?_) AllReadyH.nil
            go_simp
            go_at_call 80
            refine (KC.out _ C6.out.a.drew).mono ?_
            rintro e v7 ⟨vo, rfl, S7, hb7, fr7⟩
            have A7 := Lib.hid (C6.out.a.drew.below hb7)
            have PX := Lib.hid (HNC.out v7 vo S7 hb7 fr7)
            obtain ⟨V7, c7, rfl, _⟩ := S7.val
            have h5 : v7.cell? ⟨x.b, 5, none⟩ = some (.int .i64 c.ep) := A7.out.f5
            have h6 : v7.cell? ⟨x.b, 6, none⟩ = some (.int .i64 c.slot) := A7.out.f6
            have h3 := A7.out.hb.cell_some (i := 3) rfl
            have h4 := A7.out.hb.cell_some (i := 4) rfl
            have z3 : v7.frozen? ⟨x.b, 3, none⟩ = false := A7.out.fz 3 (by omega)
            have z4 : v7.frozen? ⟨x.b, 4, none⟩ = false := A7.out.fz 4 (by omega)
            have z5 : v7.frozen? ⟨x.b, 5, none⟩ = false := A7.out.fz 5 (by omega)
            have z6 : v7.frozen? ⟨x.b, 6, none⟩ = false := A7.out.fz 6 (by omega)
            have h3 : v7.cell? ⟨x.b, 3, none⟩ = some x.ov := h3
            have h4 : v7.cell? ⟨x.b, 4, none⟩ = some x.pv := h4
            clear S7 hb7 fr7
            go_simp
            refine hK.out _ _ (trivial) (fun hHeld => ?_)
            try simp only [Act.put, pa, pb, pc]
            refine zpl [(20,137),(21,138)] ?_
            iterate 2 (refine ztp (v := ?_) rfl (by kernel_rfl) (fun _ _ _ h => h) (by assumption) ?_ ?_; rotate_left; (·intro w hS; (try dsimp only at hS); go_simp; try with_reducible rfl); try simp only [Act.put, pa, pb, pc])
            refine zpe ?_
            refine wpAnyH_ready (rs := [22]) (by kernel_rfl) (by simp) ?_
            refine AllReadyH.cons (o := ⟨none, _, _, _, _, _⟩) rfl (fun K hK => ?_) AllReadyH.nil
            go_simp
            refine hK.out _ _ (trivial) (fun hHeld => ?_)
            try simp only [Act.put, pa, pb, pc]
            refine zpl [(23,139),(24,140)] ?_
            iterate 2 (refine ztp (v := ?_) rfl (by kernel_rfl) (fun _ _ _ h => h) (by assumption) ?_ ?_; rotate_left; (·intro w hS; (try dsimp only at hS); go_simp; try with_reducible rfl); try simp only [Act.put, pa, pb, pc])
            refine zpe ?_
            refine wpAnyH_ready (rs := [25]) (by kernel_rfl) (by simp) ?_
            refine AllReadyH.cons (o := ⟨none, _, _, _, _, _⟩) rfl (fun K hK => ?_) AllReadyH.nil
            go_simp
            refine hK.out _ _ (trivial) (fun hHeld => ?_)
            try simp only [Act.put, pa, pb, pc]
            refine zpl [(26,141),(27,142)] ?_
            iterate 2 (refine ztp (v := ?_) rfl (by kernel_rfl) (fun _ _ _ h => h) (by assumption) ?_ ?_; rotate_left; (·intro w hS; (try dsimp only at hS); go_simp; try with_reducible rfl); try simp only [Act.put, pa, pb, pc])
            refine zpe ?_
            refine wpAnyH_ready (rs := [28]) (by kernel_rfl) (by simp) ?_
            refine AllReadyH.cons (o := ⟨none, _, _, _, _, _⟩) rfl (fun K hK => ?_) AllReadyH.nil
            go_simp
            refine hK.out _ _ (trivial) (fun hHeld => ?_)
            try simp only [Act.put, pa, pb, pc]
            refine zpl [(29,143),(30,144)] ?_
            iterate 2 (refine ztp (v := ?_) rfl (by kernel_rfl) (fun _ _ _ h => h) (by assumption) ?_ ?_; rotate_left; (·intro w hS; (try dsimp only at hS); go_simp; try with_reducible rfl); try simp only [Act.put, pa, pb, pc])
            refine zpe ?_
            refine wpAnyH_ready (rs := [31]) (by kernel_rfl) (by simp) ?_
            refine AllReadyH.cons (o := ⟨none, _, _, _, _, _⟩) rfl (fun K hK => ?_) AllReadyH.nil
            go_simp
            refine hK.out _ _ (trivial) (fun hHeld => ?_)
            try simp only [Act.put, pa, pb, pc]
            refine wpAnyH_done (by kernel_rfl) ?_ _
            go_wp2_with fail
            go_ret
            first
             | exact ⟨by first | rfl | simp, PX.out⟩
             | exact ⟨by first | rfl | simp, by have q := PX.out; rw [hkl] at q; exact q⟩
          ·skip
           go_simp
           have gd := d6
           go_simp
           clear gd
           refine hK.out _ _ (trivial) (fun hHeld => ?_)
           try simp only [Act.put, pa, pb, pc]
           refine zpl [(19,136)] ?_
           iterate 1 (refine ztp (v := ?_) rfl (by kernel_rfl) (fun _ _ _ h => h) (by assumption) ?_ ?_; rotate_left; (·intro w hS; (try dsimp only at hS); go_simp; try with_reducible rfl); try simp only [Act.put, pa, pb, pc])
           refine zpe ?_
           refine wpAnyH_ready (rs := [8, 13]) (by kernel_rfl) (by simp) ?_
           refine AllReadyH.cons (o := ⟨some 125, _, _, _, _, _⟩) rfl (fun K hK => ?_) (AllReadyH.cons (o := ⟨some 130, _, _, _, _, _⟩) rfl (fun K hK => ?_) AllReadyH.nil)
           ·skip
            go_simp
            go_at_call 80
            refine (KC.out _ C6.out.a.drew).mono ?_
            rintro e v7 ⟨vo, rfl, S7, hb7, fr7⟩
            have A7 := Lib.hid (C6.out.a.drew.below hb7)
            have PX := Lib.hid (HNC.out v7 vo S7 hb7 fr7)
            obtain ⟨V7, c7, rfl, _⟩ := S7.val
            have h5 : v7.cell? ⟨x.b, 5, none⟩ = some (.int .i64 c.ep) := A7.out.f5
            have h6 : v7.cell? ⟨x.b, 6, none⟩ = some (.int .i64 c.slot) := A7.out.f6
            have h3 := A7.out.hb.cell_some (i := 3) rfl
            have h4 := A7.out.hb.cell_some (i := 4) rfl
            have z3 : v7.frozen? ⟨x.b, 3, none⟩ = false := A7.out.fz 3 (by omega)
            have z4 : v7.frozen? ⟨x.b, 4, none⟩ = false := A7.out.fz 4 (by omega)
            have z5 : v7.frozen? ⟨x.b, 5, none⟩ = false := A7.out.fz 5 (by omega)
            have z6 : v7.frozen? ⟨x.b, 6, none⟩ = false := A7.out.fz 6 (by omega)
            have h3 : v7.cell? ⟨x.b, 3, none⟩ = some x.ov := h3
            have h4 : v7.cell? ⟨x.b, 4, none⟩ = some x.pv := h4
            clear S7 hb7 fr7
            go_simp
            refine hK.out _ _ (trivial) (fun hHeld => ?_)
            try simp only [Act.put, pa, pb, pc]
            refine wpAnyH_ready (rs := [13]) (by kernel_rfl) (by simp) ?_
            refine AllReadyH.cons (o := ⟨some 130, _, _, _, _, _⟩) rfl (fun K hK => ?_) AllReadyH.nil
            go_simp
            have gd := h5
            go_simp
            clear gd
            refine hK.out _ _ (trivial) (fun hHeld => ?_)
            try simp only [Act.put, pa, pb, pc]
            refine zpl [(14,131),(20,137),(21,138)] ?_
            iterate 3 (refine ztp (v := ?_) rfl (by kernel_rfl) (fun _ _ _ h => h) (by assumption) ?_ ?_; rotate_left; (·intro w hS; (try dsimp only at hS); go_simp; try with_reducible rfl); try simp only [Act.put, pa, pb, pc])
            refine zpe ?_
            refine wpAnyH_ready (rs := [22]) (by kernel_rfl) (by simp) ?_
            refine AllReadyH.cons (o := ⟨none, _, _, _, _, _⟩) rfl (fun K hK => ?_) AllReadyH.nil
            go_simp
            refine hK.out _ _ (trivial) (fun hHeld => ?_)
            try simp only [Act.put, pa, pb, pc]
            refine zpl [(23,139),(24,140)] ?_
            iterate 2 (refine ztp (v := ?_) rfl (by kernel_rfl) (fun _ _ _ h => h) (by assumption) ?_ ?_; rotate_left; (·intro w hS; (try dsimp only at hS); go_simp; try with_reducible rfl); try simp only [Act.put, pa, pb, pc])
            refine zpe ?_
            refine wpAnyH_ready (rs := [25]) (by kernel_rfl) (by simp) ?_
            refine AllReadyH.cons (o := ⟨none, _, _, _, _, _⟩) rfl (fun K hK => ?_) AllReadyH.nil
            go_simp
            refine hK.out _ _ (trivial) (fun hHeld => ?_)
            try simp only [Act.put, pa, pb, pc]
            refine zpl [(26,141),(27,142)] ?_
            iterate 2 (refine ztp (v := ?_) rfl (by kernel_rfl) (fun _ _ _ h => h) (by assumption) ?_ ?_; rotate_left; (·intro w hS; (try dsimp only at hS); go_simp; try with_reducible rfl); try simp only [Act.put, pa, pb, pc])
            refine zpe ?_
            refine wpAnyH_ready (rs := [28]) (by kernel_rfl) (by simp) ?_
            refine AllReadyH.cons (o := ⟨none, _, _, _, _, _⟩) rfl (fun K hK => ?_) AllReadyH.nil
            go_simp
            refine hK.out _ _ (trivial) (fun hHeld => ?_)
            try simp only [Act.put, pa, pb, pc]
            refine zpl [(29,143),(30,144)] ?_
            iterate 2 (refine ztp (v := ?_) rfl (by kernel_rfl) (fun _ _ _ h => h) (by assumption) ?_ ?_; rotate_left; (·intro w hS; (try dsimp only at hS); go_simp; try with_reducible rfl); try simp only [Act.put, pa, pb, pc])
            refine zpe ?_
            refine wpAnyH_ready (rs := [31]) (by kernel_rfl) (by simp) ?_
            refine AllReadyH.cons (o := ⟨none, _, _, _, _, _⟩) rfl (fun K hK => ?_) AllReadyH.nil
            go_simp
            refine hK.out _ _ (trivial) (fun hHeld => ?_)
            try simp only [Act.put, pa, pb, pc]
            refine wpAnyH_done (by kernel_rfl) ?_ _
            go_wp2_with fail
            go_ret
            first
             | exact ⟨by first | rfl | simp, PX.out⟩
             | exact ⟨by first | rfl | simp, by have q := PX.out; rw [hkl] at q; exact q⟩
           ·skip
            go_simp
            have gd := d5
            go_simp
            clear gd
            refine hK.out _ _ (trivial) (fun hHeld => ?_)
            try simp only [Act.put, pa, pb, pc]
            refine zpl [(14,131)] ?_
            iterate 1 (refine ztp (v := ?_) rfl (by kernel_rfl) (fun _ _ _ h => h) (by assumption) ?_ ?_; rotate_left; (·intro w hS; (try dsimp only at hS); go_simp; try with_reducible rfl); try simp only [Act.put, pa, pb, pc])
            refine zpe ?_
            refine wpAnyH_ready (rs := [8]) (by kernel_rfl) (by simp) ?_
            refine AllReadyH.cons (o := ⟨some 125, _, _, _, _, _⟩) rfl (fun K hK => ?_) AllReadyH.nil
            go_simp
            go_at_call 80
            refine (KC.out _ C6.out.a.drew).mono ?_
            rintro e v7 ⟨vo, rfl, S7, hb7, fr7⟩
            have A7 := Lib.hid (C6.out.a.drew.below hb7)
            have PX := Lib.hid (HNC.out v7 vo S7 hb7 fr7)
            obtain ⟨V7, c7, rfl, _⟩ := S7.val
            have h5 : v7.cell? ⟨x.b, 5, none⟩ = some (.int .i64 c.ep) := A7.out.f5
            have h6 : v7.cell? ⟨x.b, 6, none⟩ = some (.int .i64 c.slot) := A7.out.f6
            have h3 := A7.out.hb.cell_some (i := 3) rfl
            have h4 := A7.out.hb.cell_some (i := 4) rfl
            have z3 : v7.frozen? ⟨x.b, 3, none⟩ = false := A7.out.fz 3 (by omega)
            have z4 : v7.frozen? ⟨x.b, 4, none⟩ = false := A7.out.fz 4 (by omega)
            have z5 : v7.frozen? ⟨x.b, 5, none⟩ = false := A7.out.fz 5 (by omega)
            have z6 : v7.frozen? ⟨x.b, 6, none⟩ = false := A7.out.fz 6 (by omega)
            have h3 : v7.cell? ⟨x.b, 3, none⟩ = some x.ov := h3
            have h4 : v7.cell? ⟨x.b, 4, none⟩ = some x.pv := h4
            clear S7 hb7 fr7
            go_simp
            refine hK.out _ _ (trivial) (fun hHeld => ?_)
            try simp only [Act.put, pa, pb, pc]
            refine zpl [(20,137),(21,138)] ?_
            iterate 2 (refine ztp (v := ?_) rfl (by kernel_rfl) (fun _ _ _ h => h) (by assumption) ?_ ?_; rotate_left; (·intro w hS; (try dsimp only at hS); go_simp; try with_reducible rfl); try simp only [Act.put, pa, pb, pc])
            refine zpe ?_
            refine wpAnyH_ready (rs := [22]) (by kernel_rfl) (by simp) ?_
            refine AllReadyH.cons (o := ⟨none, _, _, _, _, _⟩) rfl (fun K hK => ?_) AllReadyH.nil
            go_simp
            refine hK.out _ _ (trivial) (fun hHeld => ?_)
            try simp only [Act.put, pa, pb, pc]
            refine zpl [(23,139),(24,140)] ?_
            iterate 2 (refine ztp (v := ?_) rfl (by kernel_rfl) (fun _ _ _ h => h) (by assumption) ?_ ?_; rotate_left; (·intro w hS; (try dsimp only at hS); go_simp; try with_reducible rfl); try simp only [Act.put, pa, pb, pc])
            refine zpe ?_
            refine wpAnyH_ready (rs := [25]) (by kernel_rfl) (by simp) ?_
            refine AllReadyH.cons (o := ⟨none, _, _, _, _, _⟩) rfl (fun K hK => ?_) AllReadyH.nil
            go_simp
            refine hK.out _ _ (trivial) (fun hHeld => ?_)
            try simp only [Act.put, pa, pb, pc]
            refine zpl [(26,141),(27,142)] ?_
            iterate 2 (refine ztp (v := ?_) rfl (by kernel_rfl) (fun _ _ _ h => h) (by assumption) ?_ ?_; rotate_left; (·intro w hS; (try dsimp only at hS); go_simp; try with_reducible rfl); try simp only [Act.put, pa, pb, pc])
            refine zpe ?_
            refine wpAnyH_ready (rs := [28]) (by kernel_rfl) (by simp) ?_
            refine AllReadyH.cons (o := ⟨none, _, _, _, _, _⟩) rfl (fun K hK => ?_) AllReadyH.nil
            go_simp
            refine hK.out _ _ (trivial) (fun hHeld => ?_)
            try simp only [Act.put, pa, pb, pc]
            refine zpl [(29,143),(30,144)] ?_
            iterate 2 (refine ztp (v := ?_) rfl (by kernel_rfl) (fun _ _ _ h => h) (by assumption) ?_ ?_; rotate_left; (·intro w hS; (try dsimp only at hS); go_simp; try with_reducible rfl); try simp only [Act.put, pa, pb, pc])
            refine zpe ?_
            refine wpAnyH_ready (rs := [31]) (by kernel_rfl) (by simp) ?_
            refine AllReadyH.cons (o := ⟨none, _, _, _, _, _⟩) rfl (fun K hK => ?_) AllReadyH.nil
            go_simp
            refine hK.out _ _ (trivial) (fun hHeld => ?_)
            try simp only [Act.put, pa, pb, pc]
            refine wpAnyH_done (by kernel_rfl) ?_ _
            go_wp2_with fail
            go_ret
            first
             | exact ⟨by first | rfl | simp, PX.out⟩
             | exact ⟨by first | rfl | simp, by have q := PX.out; rw [hkl] at q; exact q⟩
         ·skip
          go_simp
          have gd := d5
          go_simp
          clear gd
          refine hK.out _ _ (trivial) (fun hHeld => ?_)
          try simp only [Act.put, pa, pb, pc]
          refine zpl [(14,131)] ?_
          iterate 1 (refine ztp (v := ?_) rfl (by kernel_rfl) (fun _ _ _ h => h) (by assumption) ?_ ?_; rotate_left; (·intro w hS; (try dsimp only at hS); go_simp; try with_reducible rfl); try simp only [Act.put, pa, pb, pc])
          refine zpe ?_
          refine wpAnyH_ready (rs := [7, 18]) (by kernel_rfl) (by simp) ?_
          refine AllReadyH.cons (o := ⟨some 124, _, _, _, _, _⟩) rfl (fun K hK => ?_) (AllReadyH.cons (o := ⟨some 135, _, _, _, _, _⟩) rfl (fun K hK => ?_) AllReadyH.nil)
          ·skip
           go_simp
           have gd := d2
           go_simp
           clear gd
           refine hK.out _ _ (trivial) (fun hHeld => ?_)
           try simp only [Act.put, pa, pb, pc]
           refine wpAnyH_ready (rs := [8, 18]) (by kernel_rfl) (by simp) ?_
           refine AllReadyH.cons (o := ⟨some 125, _, _, _, _, _⟩) rfl (fun K hK => ?_) (AllReadyH.cons (o := ⟨some 135, _, _, _, _, _⟩) rfl (fun K hK => ?_) AllReadyH.nil)
           ·skip
            go_simp
            go_at_call 80
            refine (KC.out _ C6.out.a.drew).mono ?_
            rintro e v7 ⟨vo, rfl, S7, hb7, fr7⟩
            have A7 := Lib.hid (C6.out.a.drew.below hb7)
            have PX := Lib.hid (HNC.out v7 vo S7 hb7 fr7)
            obtain ⟨V7, c7, rfl, _⟩ := S7.val
            have h5 : v7.cell? ⟨x.b, 5, none⟩ = some (.int .i64 c.ep) := A7.out.f5
            have h6 : v7.cell? ⟨x.b, 6, none⟩ = some (.int .i64 c.slot) := A7.out.f6
            have h3 := A7.out.hb.cell_some (i := 3) rfl
            have h4 := A7.out.hb.cell_some (i := 4) rfl
            have z3 : v7.frozen? ⟨x.b, 3, none⟩ = false := A7.out.fz 3 (by omega)
            have z4 : v7.frozen? ⟨x.b, 4, none⟩ = false := A7.out.fz 4 (by omega)
            have z5 : v7.frozen? ⟨x.b, 5, none⟩ = false := A7.out.fz 5 (by omega)
            have z6 : v7.frozen? ⟨x.b, 6, none⟩ = false := A7.out.fz 6 (by omega)
            have h3 : v7.cell? ⟨x.b, 3, none⟩ = some x.ov := h3
            have h4 : v7.cell? ⟨x.b, 4, none⟩ = some x.pv := h4
            clear S7 hb7 fr7
            go_simp
            refine hK.out _ _ (trivial) (fun hHeld => ?_)
            try simp only [Act.put, pa, pb, pc]
            refine wpAnyH_ready (rs := [18]) (by kernel_rfl) (by simp) ?_
            refine AllReadyH.cons (o := ⟨some 135, _, _, _, _, _⟩) rfl (fun K hK => ?_) AllReadyH.nil
            go_simp
            have gd := h6
            go_simp
            clear gd
            refine hK.out _ _ (trivial) (fun hHeld => ?_)
            try simp only [Act.put, pa, pb, pc]
            refine zpl [(19,136),(20,137),(21,138)] ?_
            iterate 3 (refine ztp (v := ?_) rfl (by kernel_rfl) (fun _ _ _ h => h) (by assumption) ?_ ?_; rotate_left; (·intro w hS; (try dsimp only at hS); go_simp; try with_reducible rfl); try simp only [Act.put, pa, pb, pc])
            refine zpe ?_
            refine wpAnyH_ready (rs := [22]) (by kernel_rfl) (by simp) ?_
            refine AllReadyH.cons (o := ⟨none, _, _, _, _, _⟩) rfl (fun K hK => ?_) AllReadyH.nil
            go_simp
            refine hK.out _ _ (trivial) (fun hHeld => ?_)
            try simp only [Act.put, pa, pb, pc]
            refine zpl [(23,139),(24,140)] ?_
            iterate 2 (refine ztp (v := ?_) rfl (by kernel_rfl) (fun _ _ _ h => h) (by assumption) ?_ ?_; rotate_left; (·intro w hS; (try dsimp only at hS); go_simp; try with_reducible rfl); try simp only [Act.put, pa, pb, pc])
            refine zpe ?_
            refine wpAnyH_ready (rs := [25]) (by kernel_rfl) (by simp) ?_
            refine AllReadyH.cons (o := ⟨none, _, _, _, _, _⟩) rfl (fun K hK => ?_) AllReadyH.nil
            go_simp
            refine hK.out _ _ (trivial) (fun hHeld => ?_)
            try simp only [Act.put, pa, pb, pc]
            refine zpl [(26,141),(27,142)] ?_
            iterate 2 (refine ztp (v := ?_) rfl (by kernel_rfl) (fun _ _ _ h => h) (by assumption) ?_ ?_; rotate_left; (·intro w hS; (try dsimp only at hS); go_simp; try with_reducible rfl); try simp only [Act.put, pa, pb, pc])
            refine zpe ?_
            refine wpAnyH_ready (rs := [28]) (by kernel_rfl) (by simp) ?_
            refine AllReadyH.cons (o := ⟨none, _, _, _, _, _⟩) rfl (fun K hK => ?_) AllReadyH.nil
            go_simp
            refine hK.out _ _ (trivial) (fun hHeld => ?_)
            try simp only [Act.put, pa, pb, pc]
            refine zpl [(29,143),(30,144)] ?_
            iterate 2 (refine ztp (v := ?_) rfl (by kernel_rfl) (fun _ _ _ h => h) (by assumption) ?_ ?_; rotate_left; (·intro w hS; (try dsimp only at hS); go_simp; try with_reducible rfl); try simp only [Act.put, pa, pb, pc])
            refine zpe ?_
            refine wpAnyH_ready (rs := [31]) (by kernel_rfl) (by simp) ?_
            refine AllReadyH.cons (o := ⟨none, _, _, _, _, _⟩) rfl (fun K hK => ?_) AllReadyH.nil
            go_simp
            refine hK.out _ _ (trivial) (fun hHeld => ?_)
            try simp only [Act.put, pa, pb, pc]
            refine wpAnyH_done (by kernel_rfl) ?_ _
            go_wp2_with fail
            go_ret
            first
             | exact ⟨by first | rfl | simp, PX.out⟩
             | exact ⟨by first | rfl | simp, by have q := PX.out; rw [hkl] at q; exact q⟩
           ·skip
            go_simp
            have gd := d6
            go_simp
            clear gd
            refine hK.out _ _ (trivial) (fun hHeld => ?_)
            try simp only [Act.put, pa, pb, pc]
            refine zpl [(19,136)] ?_
            iterate 1 (refine ztp (v := ?_) rfl (by kernel_rfl) (fun _ _ _ h => h) (by assumption) ?_ ?_; rotate_left; (·intro w hS; (try dsimp only at hS); go_simp; try with_reducible rfl); try simp only [Act.put, pa, pb, pc])
            refine zpe ?_
            refine wpAnyH_ready (rs := [8]) (by kernel_rfl) (by simp) ?_
            refine AllReadyH.cons (o := ⟨some 125, _, _, _, _, _⟩) rfl (fun K hK => ?_) AllReadyH.nil
            go_simp
            go_at_call 80
            refine (KC.out _ C6.out.a.drew).mono ?_
            rintro e v7 ⟨vo, rfl, S7, hb7, fr7⟩
            have A7 := Lib.hid (C6.out.a.drew.below hb7)
            have PX := Lib.hid (HNC.out v7 vo S7 hb7 fr7)
            obtain ⟨V7, c7, rfl, _⟩ := S7.val
            have h5 : v7.cell? ⟨x.b, 5, none⟩ = some (.int .i64 c.ep) := A7.out.f5
            have h6 : v7.cell? ⟨x.b, 6, none⟩ = some (.int .i64 c.slot) := A7.out.f6
            have h3 := A7.out.hb.cell_some (i := 3) rfl
            have h4 := A7.out.hb.cell_some (i := 4) rfl
            have z3 : v7.frozen? ⟨x.b, 3, none⟩ = false := A7.out.fz 3 (by omega)
            have z4 : v7.frozen? ⟨x.b, 4, none⟩ = false := A7.out.fz 4 (by omega)
            have z5 : v7.frozen? ⟨x.b, 5, none⟩ = false := A7.out.fz 5 (by omega)
            have z6 : v7.frozen? ⟨x.b, 6, none⟩ = false := A7.out.fz 6 (by omega)
            have h3 : v7.cell? ⟨x.b, 3, none⟩ = some x.ov := h3
            have h4 : v7.cell? ⟨x.b, 4, none⟩ = some x.pv := h4
            clear S7 hb7 fr7
            go_simp
            refine hK.out _ _ (trivial) (fun hHeld => ?_)
            try simp only [Act.put, pa, pb, pc]
            refine zpl [(20,137),(21,138)] ?_
            iterate 2 (refine ztp (v := ?_) rfl (by kernel_rfl) (fun _ _ _ h => h) (by assumption) ?_ ?_; rotate_left; (·intro w hS; (try dsimp only at hS); go_simp; try with_reducible rfl); try simp only [Act.put, pa, pb, pc])
            refine zpe ?_
            refine wpAnyH_ready (rs := [22]) (by kernel_rfl) (by simp) ?_
            refine AllReadyH.cons (o := ⟨none, _, _, _, _, _⟩) rfl (fun K hK => ?_) AllReadyH.nil
            go_simp
            refine hK.out _ _ (trivial) (fun hHeld => ?_)
            try simp only [Act.put, pa, pb, pc]
            refine zpl [(23,139),(24,140)] ?_
            iterate 2 (refine ztp (v := ?_) rfl (by kernel_rfl) (fun _ _ _ h => h) (by assumption) ?_ ?_; rotate_left; (·intro w hS; (try dsimp only at hS); go_simp; try with_reducible rfl); try simp only [Act.put, pa, pb, pc])
            refine zpe ?_
            refine wpAnyH_ready (rs := [25]) (by kernel_rfl) (by simp) ?_
            refine AllReadyH.cons (o := ⟨none, _, _, _, _, _⟩) rfl (fun K hK => ?_) AllReadyH.nil
            go_simp
            refine hK.out _ _ (trivial) (fun hHeld => ?_)
            try simp only [Act.put, pa, pb, pc]
            refine zpl [(26,141),(27,142)] ?_
            iterate 2 (refine ztp (v := ?_) rfl (by kernel_rfl) (fun _ _ _ h => h) (by assumption) ?_ ?_; rotate_left; (·intro w hS; (try dsimp only at hS); go_simp; try with_reducible rfl); try simp only [Act.put, pa, pb, pc])
            refine zpe ?_
            refine wpAnyH_ready (rs := [28]) (by kernel_rfl) (by simp) ?_
            refine AllReadyH.cons (o := ⟨none, _, _, _, _, _⟩) rfl (fun K hK => ?_) AllReadyH.nil
            go_simp
            refine hK.out _ _ (trivial) (fun hHeld => ?_)
            try simp only [Act.put, pa, pb, pc]
            refine zpl [(29,143),(30,144)] ?_
            iterate 2 (refine ztp (v := ?_) rfl (by kernel_rfl) (fun _ _ _ h => h) (by assumption) ?_ ?_; rotate_left; (·intro w hS; (try dsimp only at hS); go_simp; try with_reducible rfl); try simp only [Act.put, pa, pb, pc])
            refine zpe ?_
            refine wpAnyH_ready (rs := [31]) (by kernel_rfl) (by simp) ?_
            refine AllReadyH.cons (o := ⟨none, _, _, _, _, _⟩) rfl (fun K hK => ?_) AllReadyH.nil
            go_simp
            refine hK.out _ _ (trivial) (fun hHeld => ?_)
            try simp only [Act.put, pa, pb, pc]
            refine wpAnyH_done (by kernel_rfl) ?_ _
            go_wp2_with fail
            go_ret
            first
             | exact ⟨by first | rfl | simp, PX.out⟩
             | exact ⟨by first | rfl | simp, by have q := PX.out; rw [hkl] at q; exact q⟩
          ·skip
           go_simp
           have gd := d6
           go_simp
           clear gd
           refine hK.out _ _ (trivial) (fun hHeld => ?_)
           try simp only [Act.put, pa, pb, pc]
           refine zpl [(19,136)] ?_
           iterate 1 (refine ztp (v := ?_) rfl (by kernel_rfl) (fun _ _ _ h => h) (by assumption) ?_ ?_; rotate_left; (·intro w hS; (try dsimp only at hS); go_simp; try with_reducible rfl); try simp only [Act.put, pa, pb, pc])
           refine zpe ?_
           refine wpAnyH_ready (rs := [7]) (by kernel_rfl) (by simp) ?_
           refine AllReadyH.cons (o := ⟨some 124, _, _, _, _, _⟩) rfl (fun K hK => ?_) AllReadyH.nil
           go_simp
           have gd := d2
           go_simp
           clear gd
           refine hK.out _ _ (trivial) (fun hHeld => ?_)
           try simp only [Act.put, pa, pb, pc]
           refine wpAnyH_ready (rs := [8]) (by kernel_rfl) (by simp) ?_
           refine AllReadyH.cons (o := ⟨some 125, _, _, _, _, _⟩) rfl (fun K hK => ?_) AllReadyH.nil
           go_simp
           go_at_call 80
           refine (KC.out _ C6.out.a.drew).mono ?_
           rintro e v7 ⟨vo, rfl, S7, hb7, fr7⟩
           have A7 := Lib.hid (C6.out.a.drew.below hb7)
           have PX := Lib.hid (HNC.out v7 vo S7 hb7 fr7)
           obtain ⟨V7, c7, rfl, _⟩ := S7.val
           have h5 : v7.cell? ⟨x.b, 5, none⟩ = some (.int .i64 c.ep) := A7.out.f5
           have h6 : v7.cell? ⟨x.b, 6, none⟩ = some (.int .i64 c.slot) := A7.out.f6
           have h3 := A7.out.hb.cell_some (i := 3) rfl
           have h4 := A7.out.hb.cell_some (i := 4) rfl
           have z3 : v7.frozen? ⟨x.b, 3, none⟩ = false := A7.out.fz 3 (by omega)
           have z4 : v7.frozen? ⟨x.b, 4, none⟩ = false := A7.out.fz 4 (by omega)
           have z5 : v7.frozen? ⟨x.b, 5, none⟩ = false := A7.out.fz 5 (by omega)
           have z6 : v7.frozen? ⟨x.b, 6, none⟩ = false := A7.out.fz 6 (by omega)
           have h3 : v7.cell? ⟨x.b, 3, none⟩ = some x.ov := h3
           have h4 : v7.cell? ⟨x.b, 4, none⟩ = some x.pv := h4
           clear S7 hb7 fr7
           go_simp
           refine hK.out _ _ (trivial) (fun hHeld => ?_)
           try simp only [Act.put, pa, pb, pc]
           refine zpl [(20,137),(21,138)] ?_
           iterate 2 (refine ztp (v := ?_) rfl (by kernel_rfl) (fun _ _ _ h => h) (by assumption) ?_ ?_; rotate_left; (·intro w hS; (try dsimp only at hS); go_simp; try with_reducible rfl); try simp only [Act.put, pa, pb, pc])
           refine zpe ?_
           refine wpAnyH_ready (rs := [22]) (by kernel_rfl) (by simp) ?_
           refine AllReadyH.cons (o := ⟨none, _, _, _, _, _⟩) rfl (fun K hK => ?_) AllReadyH.nil
           go_simp
           refine hK.out _ _ (trivial) (fun hHeld => ?_)
           try simp only [Act.put, pa, pb, pc]
           refine zpl [(23,139),(24,140)] ?_
           iterate 2 (refine ztp (v := ?_) rfl (by kernel_rfl) (fun _ _ _ h => h) (by assumption) ?_ ?_; rotate_left; (·intro w hS; (try dsimp only at hS); go_simp; try with_reducible rfl); try simp only [Act.put, pa, pb, pc])
           refine zpe ?_
           refine wpAnyH_ready (rs := [25]) (by kernel_rfl) (by simp) ?_
           refine AllReadyH.cons (o := ⟨none, _, _, _, _, _⟩) rfl (fun K hK => ?_) AllReadyH.nil
           go_simp
           refine hK.out _ _ (trivial) (fun hHeld => ?_)
           try simp only [Act.put, pa, pb, pc]
           refine zpl [(26,141),(27,142)] ?_
           iterate 2 (refine ztp (v := ?_) rfl (by kernel_rfl) (fun _ _ _ h => h) (by assumption) ?_ ?_; rotate_left; (·intro w hS; (try dsimp only at hS); go_simp; try with_reducible rfl); try simp only [Act.put, pa, pb, pc])
           refine zpe ?_
           refine wpAnyH_ready (rs := [28]) (by kernel_rfl) (by simp) ?_
           refine AllReadyH.cons (o := ⟨none, _, _, _, _, _⟩) rfl (fun K hK => ?_) AllReadyH.nil
           go_simp
           refine hK.out _ _ (trivial) (fun hHeld => ?_)
           try simp only [Act.put, pa, pb, pc]
           refine zpl [(29,143),(30,144)] ?_
           iterate 2 (refine ztp (v := ?_) rfl (by kernel_rfl) (fun _ _ _ h => h) (by assumption) ?_ ?_; rotate_left; (·intro w hS; (try dsimp only at hS); go_simp; try with_reducible rfl); try simp only [Act.put, pa, pb, pc])
           refine zpe ?_
           refine wpAnyH_ready (rs := [31]) (by kernel_rfl) (by simp) ?_
           refine AllReadyH.cons (o := ⟨none, _, _, _, _, _⟩) rfl (fun K hK => ?_) AllReadyH.nil
           go_simp
           refine hK.out _ _ (trivial) (fun hHeld => ?_)
           try simp only [Act.put, pa, pb, pc]
           refine wpAnyH_done (by kernel_rfl) ?_ _
           go_wp2_with fail
           go_ret
           first
            | exact ⟨by first | rfl | simp, PX.out⟩
            | exact ⟨by first | rfl | simp, by have q := PX.out; rw [hkl] at q; exact q⟩
         ·skip
          go_simp
          have gd := d6
          go_simp
          clear gd
          refine hK.out _ _ (trivial) (fun hHeld => ?_)
          try simp only [Act.put, pa, pb, pc]
          refine zpl [(19,136)] ?_
          iterate 1 (refine ztp (v := ?_) rfl (by kernel_rfl) (fun _ _ _ h => h) (by assumption) ?_ ?_; rotate_left; (·intro w hS; (try dsimp only at hS); go_simp; try with_reducible rfl); try simp only [Act.put, pa, pb, pc])
          refine zpe ?_
          refine wpAnyH_ready (rs := [7, 13]) (by kernel_rfl) (by simp) ?_
          refine AllReadyH.cons (o := ⟨some 124, _, _, _, _, _⟩) rfl (fun K hK => ?_) (AllReadyH.cons (o := ⟨some 130, _, _, _, _, _⟩) rfl (fun K hK => ?_) AllReadyH.nil)
          ·skip
           go_simp
           have gd := d2
           go_simp
           clear gd
           refine hK.out _ _ (trivial) (fun hHeld => ?_)
           try simp only [Act.put, pa, pb, pc]
           refine wpAnyH_ready (rs := [8, 13]) (by kernel_rfl) (by simp) ?_
           refine AllReadyH.cons (o := ⟨some 125, _, _, _, _, _⟩) rfl (fun K hK => ?_) (AllReadyH.cons (o := ⟨some 130, _, _, _, _, _⟩) rfl (fun K hK => ?_) AllReadyH.nil)
           ·skip
            go_simp
            go_at_call 80
            refine (KC.out _ C6.out.a.drew).mono ?_
            rintro e v7 ⟨vo, rfl, S7, hb7, fr7⟩
            have A7 := Lib.hid (C6.out.a.drew.below hb7)
            have PX := Lib.hid (HNC.out v7 vo S7 hb7 fr7)
            obtain ⟨V7, c7, rfl, _⟩ := S7.val
            have h5 : v7.cell? ⟨x.b, 5, none⟩ = some (.int .i64 c.ep) := A7.out.f5
            have h6 : v7.cell? ⟨x.b, 6, none⟩ = some (.int .i64 c.slot) := A7.out.f6
            have h3 := A7.out.hb.cell_some (i := 3) rfl
            have h4 := A7.out.hb.cell_some (i := 4) rfl
            have z3 : v7.frozen? ⟨x.b, 3, none⟩ = false := A7.out.fz 3 (by omega)
            have z4 : v7.frozen? ⟨x.b, 4, none⟩ = false := A7.out.fz 4 (by omega)
            have z5 : v7.frozen? ⟨x.b, 5, none⟩ = false := A7.out.fz 5 (by omega)
            have z6 : v7.frozen? ⟨x.b, 6, none⟩ = false := A7.out.fz 6 (by omega)
            have h3 : v7.cell? ⟨x.b, 3, none⟩ = some x.ov := h3
            have h4 : v7.cell? ⟨x.b, 4, none⟩ = some x.pv := h4
            clear S7 hb7 fr7
            go_simp
            refine hK.out _ _ (trivial) (fun hHeld => ?_)
            try simp only [Act.put, pa, pb, pc]
            refine wpAnyH_ready (rs := [13]) (by kernel_rfl) (by simp) ?_
            refine AllReadyH.cons (o := ⟨some 130, _, _, _, _, _⟩) rfl (fun K hK => ?_) AllReadyH.nil
            go_simp
            have gd := h5
            go_simp
            clear gd
            refine hK.out _ _ (trivial) (fun hHeld => ?_)
            try simp only [Act.put, pa, pb, pc]
            refine zpl [(14,131),(20,137),(21,138)] ?_
            iterate 3 (refine ztp (v := ?_) rfl (by kernel_rfl) (fun _ _ _ h => h) (by assumption) ?_ ?_; rotate_left; (·intro w hS; (try dsimp only at hS); go_simp; try with_reducible rfl); try simp only [Act.put, pa, pb, pc])
            refine zpe ?_
            refine wpAnyH_ready (rs := [22]) (by kernel_rfl) (by simp) ?_
            refine AllReadyH.cons (o := ⟨none, _, _, _, _, _⟩) rfl (fun K hK => ?_) AllReadyH.nil
            go_simp
            refine hK.out _ _ (trivial) (fun hHeld => ?_)
            try simp only [Act.put, pa, pb, pc]
            refine zpl [(23,139),(24,140)] ?_
            iterate 2 (refine ztp (v := ?_) rfl (by kernel_rfl) (fun _ _ _ h => h) (by assumption) ?_ ?_; rotate_left; (·intro w hS; (try dsimp only at hS); go_simp; try with_reducible rfl); try simp only [Act.put, pa, pb, pc])
            refine zpe ?_
            refine wpAnyH_ready (rs := [25]) (by kernel_rfl) (by simp) ?_
            refine AllReadyH.cons (o := ⟨none, _, _, _, _, _⟩) rfl (fun K hK => ?_) AllReadyH.nil
            go_simp
            refine hK.out _ _ (trivial) (fun hHeld => ?_)
            try simp only [Act.put, pa, pb, pc]
            refine zpl [(26,141),(27,142)] ?_
            iterate 2 (refine ztp (v := ?_) rfl (by kernel_rfl) (fun _ _ _ h => h) (by assumption) ?_ ?_; rotate_left; (·intro w hS; (try dsimp only at hS); go_simp; try with_reducible rfl); try simp only [Act.put, pa, pb, pc])
            refine zpe ?_
            refine wpAnyH_ready (rs := [28]) (by kernel_rfl) (by simp) ?_
            refine AllReadyH.cons (o := ⟨none, _, _, _, _, _⟩) rfl (fun K hK => ?_) AllReadyH.nil
            go_simp
            refine hK.out _ _ (trivial) (fun hHeld => ?_)
            try simp only [Act.put, pa, pb, pc]
            refine zpl [(29,143),(30,144)] ?_
            iterate 2 (refine ztp (v := ?_) rfl (by kernel_rfl) (fun _ _ _ h => h) (by assumption) ?_ ?_; rotate_left; (·intro w hS; (try dsimp only at hS); go_simp; try with_reducible rfl); try simp only [Act.put, pa, pb, pc])
            refine zpe ?_
            refine wpAnyH_ready (rs := [31]) (by kernel_rfl) (by simp) ?_
            refine AllReadyH.cons (o := ⟨none, _, _, _, _, _⟩) rfl (fun K hK => ?_) AllReadyH.nil
            go_simp
            refine hK.out _ _ (trivial) (fun hHeld => ?_)
            try simp only [Act.put, pa, pb, pc]
            refine wpAnyH_done (by kernel_rfl) ?_ _
            go_wp2_with fail
            go_ret
            first
             | exact ⟨by first | rfl | simp, PX.out⟩
             | exact ⟨by first | rfl | simp, by have q := PX.out; rw [hkl] at q; exact q⟩
           ·skip
            go_simp
            have gd := d5
            go_simp
            clear gd
            refine hK.out _ _ (trivial) (fun hHeld => ?_)
            try simp only [Act.put, pa, pb, pc]
            refine zpl [(14,131)] ?_
            iterate 1 (refine ztp (v := ?_) rfl (by kernel_rfl) (fun _ _ _ h => h) (by assumption) ?_ ?_; rotate_left; (·intro w hS; (try dsimp only at hS); go_simp; try with_reducible rfl); try simp only [Act.put, pa, pb, pc])
            refine zpe ?_
            refine wpAnyH_ready (rs := [8]) (by kernel_rfl) (by simp) ?_
            refine AllReadyH.cons (o := ⟨some 125, _, _, _, _, _⟩) rfl (fun K hK => ?_) AllReadyH.nil
            go_simp
            go_at_call 80
            refine (KC.out _ C6.out.a.drew).mono ?_
            rintro e v7 ⟨vo, rfl, S7, hb7, fr7⟩
            have A7 := Lib.hid (C6.out.a.drew.below hb7)
            have PX := Lib.hid (HNC.out v7 vo S7 hb7 fr7)
            obtain ⟨V7, c7, rfl, _⟩ := S7.val
            have h5 : v7.cell? ⟨x.b, 5, none⟩ = some (.int .i64 c.ep) := A7.out.f5
            have h6 : v7.cell? ⟨x.b, 6, none⟩ = some (.int .i64 c.slot) := A7.out.f6
            have h3 := A7.out.hb.cell_some (i := 3) rfl
            have h4 := A7.out.hb.cell_some (i := 4) rfl
            have z3 : v7.frozen? ⟨x.b, 3, none⟩ = false := A7.out.fz 3 (by omega)
            have z4 : v7.frozen? ⟨x.b, 4, none⟩ = false := A7.out.fz 4 (by omega)
            have z5 : v7.frozen? ⟨x.b, 5, none⟩ = false := A7.out.fz 5 (by omega)
            have z6 : v7.frozen? ⟨x.b, 6, none⟩ = false := A7.out.fz 6 (by omega)
            have h3 : v7.cell? ⟨x.b, 3, none⟩ = some x.ov := h3
            have h4 : v7.cell? ⟨x.b, 4, none⟩ = some x.pv := h4
            clear S7 hb7 fr7
            go_simp
            refine hK.out _ _ (trivial) (fun hHeld => ?_)
            try simp only [Act.put, pa, pb, pc]
            refine zpl [(20,137),(21,138)] ?_
            iterate 2 (refine ztp (v := ?_) rfl (by kernel_rfl) (fun _ _ _ h => h) (by assumption) ?_ ?_; rotate_left; (·intro w hS; (try dsimp only at hS); go_simp; try with_reducible rfl); try simp only [Act.put, pa, pb, pc])
            refine zpe ?_
            refine wpAnyH_ready (rs := [22]) (by kernel_rfl) (by simp) ?_
            refine AllReadyH.cons (o := ⟨none, _, _, _, _, _⟩) rfl (fun K hK => ?_) AllReadyH.nil
            go_simp
            refine hK.out _ _ (trivial) (fun hHeld => ?_)
            try simp only [Act.put, pa, pb, pc]
            refine zpl [(23,139),(24,140)] ?_
            iterate 2 (refine ztp (v := ?_) rfl (by kernel_rfl) (fun _ _ _ h => h) (by assumption) ?_ ?_; rotate_left; (·intro w hS; (try dsimp only at hS); go_simp; try with_reducible rfl); try simp only [Act.put, pa, pb, pc])
            refine zpe ?_
            refine wpAnyH_ready (rs := [25]) (by kernel_rfl) (by simp) ?_
            refine AllReadyH.cons (o := ⟨none, _, _, _, _, _⟩) rfl (fun K hK => ?_) AllReadyH.nil
            go_simp
            refine hK.out _ _ (trivial) (fun hHeld => ?_)
            try simp only [Act.put, pa, pb, pc]
            refine zpl [(26,141),(27,142)] ?_
            iterate 2 (refine ztp (v := ?_) rfl (by kernel_rfl) (fun _ _ _ h => h) (by assumption) ?_ ?_; rotate_left; (·intro w hS; (try dsimp only at hS); go_simp; try with_reducible rfl); try simp only [Act.put, pa, pb, pc])
            refine zpe ?_
            refine wpAnyH_ready (rs := [28]) (by kernel_rfl) (by simp) ?_
            refine AllReadyH.cons (o := ⟨none, _, _, _, _, _⟩) rfl (fun K hK => ?_) AllReadyH.nil
            go_simp
            refine hK.out _ _ (trivial) (fun hHeld => ?_)
            try simp only [Act.put, pa, pb, pc]
            refine zpl [(29,143),(30,144)] ?_
            iterate 2 (refine ztp (v := ?_) rfl (by kernel_rfl) (fun _ _ _ h => h) (by assumption) ?_ ?_; rotate_left; (·intro w hS; (try dsimp only at hS); go_simp; try with_reducible rfl); try simp only [Act.put, pa, pb, pc])
            refine zpe ?_
            refine wpAnyH_ready (rs := [31]) (by kernel_rfl) (by simp) ?_
            refine AllReadyH.cons (o := ⟨none, _, _, _, _, _⟩) rfl (fun K hK => ?_) AllReadyH.nil
            go_simp
            refine hK.out _ _ (trivial) (fun hHeld => ?_)
            try simp only [Act.put, pa, pb, pc]
            refine wpAnyH_done (by kernel_rfl) ?_ _
            go_wp2_with fail
            go_ret
            first
             | exact ⟨by first | rfl | simp, PX.out⟩
             | exact ⟨by first | rfl | simp, by have q := PX.out; rw [hkl] at q; exact q⟩
          ·skip
           go_simp
           have gd := d5
           go_simp
           clear gd
           refine hK.out _ _ (trivial) (fun hHeld => ?_)
           try simp only [Act.put, pa, pb, pc]
           refine zpl [(14,131)] ?_
           iterate 1 (refine ztp (v := ?_) rfl (by kernel_rfl) (fun _ _ _ h => h) (by assumption) ?_ ?_; rotate_left; (·intro w hS; (try dsimp only at hS); go_simp; try with_reducible rfl); try simp only [Act.put, pa, pb, pc])
           refine zpe ?_
           refine wpAnyH_ready (rs := [7]) (by kernel_rfl) (by simp) ?_
           refine AllReadyH.cons (o := ⟨some 124, _, _, _, _, _⟩) rfl (fun K hK => ?_) AllReadyH.nil
           go_simp
           have gd := d2
           go_simp
           clear gd
           refine hK.out _ _ (trivial) (fun hHeld => ?_)
           try simp only [Act.put, pa, pb, pc]
           refine wpAnyH_ready (rs := [8]) (by kernel_rfl) (by simp) ?_
           refine AllReadyH.cons (o := ⟨some 125, _, _, _, _, _⟩) rfl (fun K hK => ?_) AllReadyH.nil
           go_simp
           go_at_call 80
           refine (KC.out _ C6.out.a.drew).mono ?_
           rintro e v7 ⟨vo, rfl, S7, hb7, fr7⟩
           have A7 := Lib.hid (C6.out.a.drew.below hb7)
           have PX := Lib.hid (HNC.out v7 vo S7 hb7 fr7)
           obtain ⟨V7, c7, rfl, _⟩ := S7.val
           have h5 : v7.cell? ⟨x.b, 5, none⟩ = some (.int .i64 c.ep) := A7.out.f5
           have h6 : v7.cell? ⟨x.b, 6, none⟩ = some (.int .i64 c.slot) := A7.out.f6
           have h3 := A7.out.hb.cell_some (i := 3) rfl
           have h4 := A7.out.hb.cell_some (i := 4) rfl
           have z3 : v7.frozen? ⟨x.b, 3, none⟩ = false := A7.out.fz 3 (by omega)
           have z4 : v7.frozen? ⟨x.b, 4, none⟩ = false := A7.out.fz 4 (by omega)
           have z5 : v7.frozen? ⟨x.b, 5, none⟩ = false := A7.out.fz 5 (by omega)
           have z6 : v7.frozen? ⟨x.b, 6, none⟩ = false := A7.out.fz 6 (by omega)
           have h3 : v7.cell? ⟨x.b, 3, none⟩ = some x.ov := h3
           have h4 : v7.cell? ⟨x.b, 4, none⟩ = some x.pv := h4
           clear S7 hb7 fr7
           go_simp
           refine hK.out _ _ (trivial) (fun hHeld => ?_)
           try simp only [Act.put, pa, pb, pc]
           refine zpl [(20,137),(21,138)] ?_
           iterate 2 (refine ztp (v := ?_) rfl (by kernel_rfl) (fun _ _ _ h => h) (by assumption) ?_ ?_; rotate_left; (·intro w hS; (try dsimp only at hS); go_simp; try with_reducible rfl); try simp only [Act.put, pa, pb, pc])
           refine zpe ?_
           refine wpAnyH_ready (rs := [22]) (by kernel_rfl) (by simp) ?_
           refine AllReadyH.cons (o := ⟨none, _, _, _, _, _⟩) rfl (fun K hK => ?_) AllReadyH.nil
           go_simp
           refine hK.out _ _ (trivial) (fun hHeld => ?_)
           try simp only [Act.put, pa, pb, pc]
           refine zpl [(23,139),(24,140)] ?_
           iterate 2 (refine ztp (v := ?_) rfl (by kernel_rfl) (fun _ _ _ h => h) (by assumption) ?_ ?_; rotate_left; (·intro w hS; (try dsimp only at hS); go_simp; try with_reducible rfl); try simp only [Act.put, pa, pb, pc])
           refine zpe ?_
           refine wpAnyH_ready (rs := [25]) (by kernel_rfl) (by simp) ?_
           refine AllReadyH.cons (o := ⟨none, _, _, _, _, _⟩) rfl (fun K hK => ?_) AllReadyH.nil
           go_simp
           refine hK.out _ _ (trivial) (fun hHeld => ?_)
           try simp only [Act.put, pa, pb, pc]
           refine zpl [(26,141),(27,142)] ?_
           iterate 2 (refine ztp (v := ?_) rfl (by kernel_rfl) (fun _ _ _ h => h) (by assumption) ?_ ?_; rotate_left; (·intro w hS; (try dsimp only at hS); go_simp; try with_reducible rfl); try simp only [Act.put, pa, pb, pc])
           refine zpe ?_
           refine wpAnyH_ready (rs := [28]) (by kernel_rfl) (by simp) ?_
           refine AllReadyH.cons (o := ⟨none, _, _, _, _, _⟩) rfl (fun K hK => ?_) AllReadyH.nil
           go_simp
           refine hK.out _ _ (trivial) (fun hHeld => ?_)
           try simp only [Act.put, pa, pb, pc]
           refine zpl [(29,143),(30,144)] ?_
           iterate 2 (refine ztp (v := ?_) rfl (by kernel_rfl) (fun _ _ _ h => h) (by assumption) ?_ ?_; rotate_left; (·intro w hS; (try dsimp only at hS); go_simp; try with_reducible rfl); try simp only [Act.put, pa, pb, pc])
           refine zpe ?_
           refine wpAnyH_ready (rs := [31]) (by kernel_rfl) (by simp) ?_
           refine AllReadyH.cons (o := ⟨none, _, _, _, _, _⟩) rfl (fun K hK => ?_) AllReadyH.nil
           go_simp
           refine hK.out _ _ (trivial) (fun hHeld => ?_)
           try simp only [Act.put, pa, pb, pc]
           refine wpAnyH_done (by kernel_rfl) ?_ _
           go_wp2_with fail
           go_ret
           first
            | exact ⟨by first | rfl | simp, PX.out⟩
            | exact ⟨by first | rfl | simp, by have q := PX.out; rw [hkl] at q; exact q⟩
      ·rw [if_pos hle] at HR4
       subst HR4
       have hq : (le != 0) = true := by rw [bne_iff_ne]; exact hle
       have hq2 : (le == 0) = false := by rw [beq_eq_false_iff_ne]; exact hle
       clear hlf
       unfold sp at KL
       go_wp2_with fail
       refine KL.out.mono ?_
       rintro e v3 ⟨rfl, A3, o3⟩
       have C3 := Lib.hid (show CW x n w v3 { x with tv := .slice TA 0 tc } { c with table := c.table.take 0, m := (takeN c.m i).1, d := ld } from ⟨A3, HC.out.1.o.trans (o3.mono (fun g hg _ => L_fp x g hg)), hfp⟩)
       have q7 := C3.out.a.hb.cell_some (i := 7) rfl
       have z7 := C3.out.a.fz 7 (by omega)
       have q7 : v3.cell? ⟨x.b, 7, none⟩ = some (.bool c.broken) := q7
       have z7 : v3.frozen? ⟨x.b, 7, none⟩ = false := z7
       have R7 := Lib.hid (C3.out.brk)
       clear A3 o3
       go_wp2_with fail
       go_ret
       exact ⟨by first | rfl | simp, R7.out.post⟩
   ·obtain ⟨jz, rfl⟩ : ∃ jz, k = jz + 1 := ⟨k - 1, by omega⟩
    subst hkT
    rcases hk0 with hk0 | hk0
    ·omega
    rw [Nat.add_sub_cancel] at hk0
    obtain ⟨gz, cp, hv0, ck⟩ := HB.out.1.tk jz (by show jz < (c.table.take (jz + 1)).length; omega)
    rw [show ({ c with table := c.table.take (jz + 1) } : C).table.getD jz 0 = c.table.getD jz 0 from by show (c.table.take (jz + 1)).getD jz 0 = _; simp [List.getD]] at ck
    have hv : (Value.slice TA (jz + 1) tc) = .slice (some ⟨gz, 0, none⟩) (c.table.take (jz + 1)).length cp := hv0
    clear hv0
    rw [hkl] at hv
    injection hv with e1 e2 e3
    subst e1 e3
    clear e2
    have f2 : wr.cell? ⟨x.b, 2, none⟩ = some (.slice (some ⟨gz, 0, none⟩) (jz + 1) tc) := f2
    have e4 : IntKind.i64.wrap ((jz : Int) + 1 - 1) = (jz : Int) := by rw [Int.add_sub_cancel]; exact IntWalk.i64_in _ (by omega)
    have e5 : IntKind.i64.wrap (jz : Int) = (jz : Int) := IntWalk.i64_in _ (by omega)
    have e6 : (0 : Int) < (jz : Int) + 1 := by omega
    have e7 : (jz : Int) < (jz : Int) + 1 := by omega
    have hdv : decide (c.table.getD jz 0 < 0) = false := by rw [decide_eq_false_iff_not]; exact hk0
    generalize c.table.getD jz 0 = pv at *
    have hfp : ({ x with tv := .slice (some ⟨gz, 0, none⟩) (jz + 1) tc } : X).fp = x.fp := by
     unfold X.fp
     rw [HV.out, ownS_len (some ⟨gz, 0, none⟩) (jz + 1) c.table.length tc]
    have KND := Lib.hid (fun (W : World) => Rt.need_any (((jz + 1) : Nat) : Int) (by omega) W)
    rw [needF_T] at KND
    have KFR := Lib.hid (fun (W : World) (hW : At W { x with tv := .slice (some ⟨gz, 0, none⟩) (jz + 1) tc } n { c with table := c.table.take (jz + 1) }) => Fm.free_any hW.hm)
    rw [show ({ c with table := c.table.take (jz + 1) } : C).m = c.m from rfl] at KFR
    unfold Fm.mp at KFR
    have f2 : wr.cell? ⟨x.b, 2, none⟩ = some (.slice (some ⟨gz, 0, none⟩) (jz + 1) tc) := by have := f2; exact this
    go_wp2_with fail
    go_quiet (fail)
    have C0 := Lib.hid (show CW x n w (wr.drewN nq) { x with tv := .slice (some ⟨gz, 0, none⟩) (jz + 1) tc } { c with table := c.table.take (jz + 1) } from ⟨HB.out.1.drewN nq, (HB.out.2.drewN nq).mono (fun g hg _ => by simp at hg; subst hg; simp [X.fp]), hfp⟩)
    have f1 := C0.out.a.f1
    have f2 := C0.out.a.f2
    have f5 := C0.out.a.f5
    have f2 : (wr.drewN nq).cell? ⟨x.b, 2, none⟩ = some (.slice (some ⟨gz, 0, none⟩) (c.table.take (jz + 1)).length tc) := by rw [hkl]; exact f2
    have f1 : (wr.drewN nq).cell? ⟨x.b, 1, none⟩ = some (.pointer (some ⟨x.mb, 0, none⟩)) := f1
    rw [hkl] at f2
    clear hk0
    go_wp2_with fail
    refine (KND.out _).mono ?_
    rintro e v1 ⟨rfl, hb1⟩
    have C1 := Lib.hid (C0.out.below hb1)
    have g1 : v1.cell? ⟨x.b, 1, none⟩ = some (.pointer (some ⟨x.mb, 0, none⟩)) := C1.out.a.f1
    clear hb1 f1 f2 f5
    go_wp2_with fail
    refine (KFR.out _ C1.out.a).mono ?_
    rintro e v2 ⟨rfl, hb2⟩
    have C2 := Lib.hid (C1.out.below hb2)
    have f5 := C2.out.a.f5
    have f5 : v2.cell? ⟨x.b, 5, none⟩ = some (.int .i64 c.ep) := f5
    clear hb2 g1
    by_cases hfr : (Fm.listF c.m 0).length < needT (jz + 1)
    ·have hI : ((Fm.listF c.m 0).length : Int) < ((needT (jz + 1) : Nat) : Int) := by omega
     have HR2 := HR.out
     rw [if_pos hfr] at HR2
     subst HR2
     generalize needT (jz + 1) = nd at *
     go_wp2_with fail
     go_ret
     exact ⟨by first | rfl | simp, C2.out.post⟩
    have hI : ¬ ((Fm.listF c.m 0).length : Int) < ((needT (jz + 1) : Nat) : Int) := by omega
    by_cases hee : 1099511627776 ≤ c.ep
    ·have HR2 := HR.out
     rw [if_neg hfr, if_pos hee] at HR2
     subst HR2
     generalize needT (jz + 1) = nd at *
     go_wp2_with fail
     go_ret
     exact ⟨by first | rfl | simp, C2.out.post⟩
    have HR2 := HR.out
    rw [if_neg hfr, if_neg hee] at HR2
    obtain ⟨hrr, hnn⟩ := hr (by omega) (by omega)
    have hkl2 : (jz + 1) ≤ 512 := by omega
    have hnd5 : needT (jz + 1) ≤ 5 := by unfold needT; omega
    have hm1024 := C2.out.a.hm.hl
    have HR3 := Lib.hid HR2
    clear HR2 hfr hr
    obtain ⟨nd, hnd⟩ : ∃ nd, needT (jz + 1) = nd := ⟨_, rfl⟩
    rw [hnd] at hI hrr hnn HR3 hnd5 ⊢
    clear hnd
    have hd1 : decide (((Fm.listF c.m 0).length : Int) < (nd : Int)) = false := by rw [decide_eq_false_iff_not]; exact hI
    have hd3 : decide ((Fm.listF c.m 0).length < nd) = false := by rw [decide_eq_false_iff_not]; omega
    have hd2 : decide ((1099511627776 : Int) ≤ c.ep) = false := by rw [decide_eq_false_iff_not]; omega
    have PNL := Lib.hid (fun i => takeN_len c.m i)
    go_wp2_with fail
    go_loopw [5, 6, 7, 72] (fun pv _ _ iv wq => ∃ i : Nat, i ≤ nd ∧ iv = .int .i64 i ∧ Slc wq 3 1 pv i (nvs' (takeN c.m i).2) ∧ Hid (CW x n w wq { x with tv := .slice (some ⟨gz, 0, none⟩) (jz + 1) tc } { c with table := c.table.take (jz + 1), m := (takeN c.m i).1 } ∧ ∀ g ∈ ownB pv, w.heap.size ≤ g)) (fun _ _ _ iv _ => nd - (intOf iv).toNat)
    case atStart => exact ⟨0, Nat.zero_le _, rfl, Slc.nil _ _ _, Lib.hid ⟨C2.out, by simp [ownB]⟩⟩
    case round =>
     obtain ⟨i, hi, rfl, S, HC⟩ := hrel
     obtain ⟨VA, vc, rfl⟩ := slc_val S
     by_cases h' : i < nd
     ·have hiI : (i : Int) < (nd : Int) := by omega
      have g1 : wr.cell? ⟨x.b, 1, none⟩ = some (.pointer (some ⟨x.mb, 0, none⟩)) := HC.out.1.a.f1
      have KT := Lib.hid (Fm.take_any HC.out.1.a.hm)
      have HM := Lib.hid (fun (W : World) (mm : Fm.MapAt W x.mb x.mg (Fm.takeF (takeN c.m i).1).1) (ow : Only [x.mg] wr W) => HC.out.1.a.map mm ow)
      have HTK := Lib.hid (show takeN c.m (i + 1) = ((Fm.takeF (takeN c.m i).1).1, (takeN c.m i).2 ++ [(Fm.takeF (takeN c.m i).1).2.1]) from rfl)
      rw [show ({ c with table := c.table.take (jz + 1), m := (takeN c.m i).1 } : C).m = (takeN c.m i).1 from rfl] at KT
      generalize Fm.takeF (takeN c.m i).1 = tf at *
      obtain ⟨tm, tid, te⟩ := tf
      dsimp only at KT
      unfold Fm.mp at KT
      go_wp2_with fail
      refine KT.out.mono ?_
      rintro e v3 ⟨rfl, mm, ow⟩
      have A3 := HM.out _ mm ow
      have s3 := S.only ow (fun g hg hm => by have := HC.out.2 g hg; have := HLT.out x.mg (by simp [X.fp]); simp at hm; omega)
      obtain ⟨v', w4, ea, S4, ow4, fr4⟩ := append_one (P := Tryz.prog) s3 52 52 (.int .i64 0) 8 Tryz.underlying52 info_int2 rfl (.int .i64 tid) rfl (by unfold maxLen; omega) (by omega)
      obtain ⟨V4, c4, rfl⟩ := slc_val S4
      have H4 := Lib.hid (show Slc w4 3 1 (.slice V4 (i + 1) c4) (i + 1) (nvs' (takeN c.m (i + 1)).2) ∧ CW x n w w4 { x with tv := .slice (some ⟨gz, 0, none⟩) (jz + 1) tc } { c with table := c.table.take (jz + 1), m := (takeN c.m (i + 1)).1 } ∧ ∀ g ∈ ownB (.slice V4 (i + 1) c4), w.heap.size ≤ g from by
       rw [HTK.out]
       refine ⟨by rw [nvs'_append]; exact S4, ⟨A3.only ow4 (fun g hF hg => by have := HC.out.2 g hg; have := HLT.out g (by rw [hfp] at hF; exact hF); omega), (HC.out.1.o.trans (ow.mono (fun g hg _ => mg_fp x g hg))).trans_of ow4 (fun g hg hlt => by have := HC.out.2 g hg; omega), hfp⟩, fun g hg => (fr4 g hg).elim (HC.out.2 g) (fun h => by have := HC.out.1.o.size; have := ow.size; omega)⟩)
      have EA := Lib.hid ea
      clear ea S4 ow4 fr4 s3 A3 mm ow S g1
      go_wp2_with fail
      rw [EA.out]
      go_wp2_with fail
      go_roundw
      case rel => exact ⟨i + 1, by omega, by go_num, H4.out.1, Lib.hid H4.out.2⟩
      case measure => simp [intOf]; omega
     ·obtain rfl : i = nd := by omega
      have hpl : (Rt.natI ((takeN c.m i).2.map Int.toNat)).length = i := by rw [hnn]; exact PNL.out i
      have hown : ownS (.slice VA i vc) = [] ∨ ownS (.slice VA i vc) = ownB (.slice VA i vc) := by
       cases VA with
       | none => exact .inl rfl
       | some a => unfold ownS ownB; by_cases h0 : vc = 0 <;> simp [h0]
      have hsub : ∀ g ∈ ownS (.slice VA i vc), w.heap.size ≤ g := fun g hg => by
       rcases hown with h | h
       ·rw [h] at hg; simp at hg
       ·rw [h] at hg; exact HC.out.2 g hg
      have hic : i ≤ vc := by
       obtain ⟨A', c', e, hle⟩ := (Sl.of_slc S).val
       injection e with _ _ e3
       omega
      have SP : Sl wr 3 (.slice VA i vc) i (nvs' (Rt.natI ((takeN c.m i).2.map Int.toNat))) := by rw [hnn]; exact Sl.of_slc S
      have KL := lay_any HC.out.1.a ((takeN c.m i).2.map Int.toNat) SP hic (fun g hg hF => by have := hsub g hg; have := HLT.out g (by rw [hfp] at hF; exact hF); omega) (show Rt.rightR (c.ep + 1) ((c.table.take (jz + 1)).length : Nat) _ from by rw [hkl]; exact hrr) (fun y hy => hb y (List.mem_of_mem_take hy)) hsl hc ha
      have HR4 := HR3.out
      have KL := Lib.hid KL
      generalize hlf : ({ c with table := c.table.take (jz + 1), m := (takeN c.m i).1 } : C).layF n ((takeN c.m i).2.map Int.toNat) = lf at *
      obtain ⟨ld, le⟩ := lf
      dsimp only at KL HR4
      by_cases hle : le = 0
      ·subst hle
       rw [if_neg (by simp)] at HR4
       subst HR4
       clear hlf
       obtain ⟨PA, pc, hpv, hpcc⟩ := HC.out.1.a.hp.val
       have hpv : x.pv = .slice PA c.parts.length pc := hpv
       have HPV := Lib.hid hpv
       unfold sp at KL
       go_wp2_with fail
       refine KL.out.mono ?_
       rintro e v3 ⟨rfl, A3, o3⟩
       have C3 := Lib.hid (show CW x n w v3 { x with tv := .slice (some ⟨gz, 0, none⟩) (jz + 1) tc } { c with table := c.table.take (jz + 1), m := leaveAll (takeN c.m i).1 (c.parts.take 0), d := ld } from ⟨by rw [List.take_zero]; exact A3, HC.out.1.o.trans (o3.mono (fun g hg _ => L_fp x g hg)), hfp⟩)
       have SP3 := Lib.hid (show Sl v3 3 (.slice VA i vc) i (nvs' (takeN c.m i).2) from (Sl.of_slc S).only o3 (fun g hg hF => by have := hsub g hg; have := HLT.out g (L_fp x g hF); omega))
       have q4 : v3.cell? ⟨x.b, 4, none⟩ = some (.slice PA c.parts.length pc) := by rw [← HPV.out]; exact C3.out.a.f4
       clear A3 o3 hpv
       go_wp2_with fail
       go_loopw [10, 101] (fun _ iv wr => ∃ j : Nat, j ≤ c.parts.length ∧ iv = .int .i64 j ∧ Hid (CW x n w wr { x with tv := .slice (some ⟨gz, 0, none⟩) (jz + 1) tc } { c with table := c.table.take (jz + 1), m := leaveAll (takeN c.m i).1 (c.parts.take j), d := ld }) ∧ Hid (Sl wr 3 (.slice VA i vc) i (nvs' (takeN c.m i).2))) (fun _ iv _ => c.parts.length - (intOf iv).toNat)
       case atStart => exact ⟨0, Nat.zero_le _, rfl, C3, SP3⟩
       case round =>
        obtain ⟨j, hj, rfl, HC4, SP4⟩ := hrel
        by_cases h' : j < c.parts.length
        ·have hjI : (j : Int) < (c.parts.length : Int) := by omega
         obtain ⟨g, cp, rest, hv, ⟨_, B⟩, _, _⟩ := HC4.out.a.hp.form (by show 0 < c.parts.length; omega)
         have hv : x.pv = .slice (some ⟨g, 0, none⟩) c.parts.length cp := hv
         rw [HPV.out] at hv
         injection hv with e1 e2 e3
         subst e1 e3
         clear e2
         have cj : wr.cell? ⟨g, j, none⟩ = some (.int .i64 (c.parts.getD j 0)) := B.cell_some (by rw [List.getElem?_toArray, List.getElem?_append_left (by simpa using h'), nvs'_get _ _ h'])
         have g1 : wr.cell? ⟨x.b, 1, none⟩ = some (.pointer (some ⟨x.mb, 0, none⟩)) := HC4.out.a.f1
         have hlv : leaveAll (takeN c.m i).1 (c.parts.take (j + 1)) = (Fm.leaveF (leaveAll (takeN c.m i).1 (c.parts.take j)) (c.parts.getD j 0)).1 := by
          rw [List.take_succ_eq_append_getElem h', leaveAll_app]
          simp [leaveAll, List.getD, List.getElem?_eq_getElem h']
         have KLV := Lib.hid (Fm.leave_any HC4.out.a.hm (c.parts.getD j 0))
         rw [show ({ c with table := c.table.take (jz + 1), m := leaveAll (takeN c.m i).1 (c.parts.take j), d := ld } : C).m = leaveAll (takeN c.m i).1 (c.parts.take j) from rfl, ← hlv] at KLV
         have HM := Lib.hid (fun (W : World) (mm : Fm.MapAt W x.mb x.mg (leaveAll (takeN c.m i).1 (c.parts.take (j + 1)))) (ow : Only [x.mg] wr W) => HC4.out.a.map mm ow)
         generalize (Fm.leaveF (leaveAll (takeN c.m i).1 (c.parts.take j)) (c.parts.getD j 0)).2 = lq at *
         generalize c.parts.getD j 0 = pj at *
         unfold Fm.mp at KLV
         clear hlv B
         go_wp2_with fail
         refine KLV.out.mono ?_
         rintro e v4 ⟨rfl, mm, ow⟩
         have C5 := Lib.hid (show CW x n w v4 { x with tv := .slice (some ⟨gz, 0, none⟩) (jz + 1) tc } { c with table := c.table.take (jz + 1), m := leaveAll (takeN c.m i).1 (c.parts.take (j + 1)), d := ld } from ⟨HM.out _ mm ow, HC4.out.o.trans (ow.mono (fun g hg _ => mg_fp x g hg)), hfp⟩)
         have SP5 := Lib.hid (SP4.out.only ow (fun g hg hm => by have := hsub g hg; have := HLT.out x.mg (by simp [X.fp]); simp at hm; omega))
         clear mm ow
         go_wp2_with fail
         go_roundw
         case rel => exact ⟨j + 1, by omega, by go_num, C5, SP5⟩
         case measure => simp [intOf]; omega
        ·obtain rfl : j = c.parts.length := by omega
         have g1 : wr.cell? ⟨x.b, 1, none⟩ = some (.pointer (some ⟨x.mb, 0, none⟩)) := HC4.out.a.f1
         rw [List.take_length] at HC4
         have KCM := Lib.hid (Fm.commit_any HC4.out.a.hm)
         rw [show ({ c with table := c.table.take (jz + 1), m := leaveAll (takeN c.m i).1 c.parts, d := ld } : C).m = leaveAll (takeN c.m i).1 c.parts from rfl] at KCM
         have HM := Lib.hid (fun (W : World) (mm : Fm.MapAt W x.mb x.mg (Fm.turnF 0 1 (leaveAll (takeN c.m i).1 c.parts))) (ow : Only [x.mg] wr W) => HC4.out.a.map mm ow)
         unfold Fm.mp at KCM
         go_wp2_with fail
         refine KCM.out.mono ?_
         rintro e v6 ⟨rfl, mm, ow⟩
         have C6 := Lib.hid (show CW x n w v6 { x with tv := .slice (some ⟨gz, 0, none⟩) (jz + 1) tc } { c with table := c.table.take (jz + 1), m := Fm.turnF 0 1 (leaveAll (takeN c.m i).1 c.parts), d := ld } from ⟨HM.out _ mm ow, HC4.out.o.trans (ow.mono (fun g hg _ => mg_fp x g hg)), hfp⟩)
         have SP6 := Lib.hid (SP4.out.only ow (fun g hg hm => by have := hsub g hg; have := HLT.out x.mg (by simp [X.fp]); simp at hm; omega))
         have KC := Lib.hid (fun (W : World) (hW : At W { x with tv := .slice (some ⟨gz, 0, none⟩) (jz + 1) tc } n { c with table := c.table.take (jz + 1), m := Fm.turnF 0 1 (leaveAll (takeN c.m i).1 c.parts), d := ld }) => clone_sl (v := .slice (some ⟨gz, 0, none⟩) (jz + 1) tc) hW.ht (by show (c.table.take (jz + 1)).length ≤ 100000; omega))
         have e8 : IntKind.i64.wrap (c.ep + 1) = c.ep + 1 := IntWalk.i64_in _ (by omega)
         have e9 : IntKind.i64.wrap (1 - c.slot) = 1 - c.slot := IntWalk.i64_in _ (by omega)
         have d2 : v6.cell? ⟨x.b, 2, none⟩ = some (.slice (some ⟨gz, 0, none⟩) (jz + 1) tc) := C6.out.a.f2
         have d5 : v6.cell? ⟨x.b, 5, none⟩ = some (.int .i64 c.ep) := C6.out.a.f5
         have d6 : v6.cell? ⟨x.b, 6, none⟩ = some (.int .i64 c.slot) := C6.out.a.f6
         have HNC := Lib.hid (show ∀ v7 vo, Sl v7 3 vo (c.table.take (jz + 1)).length (nvs' (c.table.take (jz + 1))) → Below v6.drew.heap.size v6.drew v7 → (∀ g ∈ ownS vo, v6.drew.heap.size ≤ g) →
           Post w ((((v7.setCell ⟨x.b, 3, none⟩ vo).setCell ⟨x.b, 4, none⟩ (.slice VA i vc)).setCell ⟨x.b, 5, none⟩ (.int .i64 (c.ep + 1))).setCell ⟨x.b, 6, none⟩ (.int .i64 (1 - c.slot))) x n
            { c with table := c.table.take (jz + 1), m := Fm.turnF 0 1 (leaveAll (takeN c.m i).1 c.parts), d := ld, old := c.table.take (jz + 1), parts := (takeN c.m i).2, ep := c.ep + 1, slot := 1 - c.slot } from fun v7 vo S7 hb7 fr7 => by
          have A7 := C6.out.a.drew.below hb7
          have SP7 : Sl v7 3 (.slice VA i vc) (takeN c.m i).2.length (nvs' (takeN c.m i).2) := by rw [PNL.out]; exact SP6.out.drew.below hb7
          have hfpl : ∀ g ∈ ({ x with tv := .slice (some ⟨gz, 0, none⟩) (jz + 1) tc } : X).fp, g < w.heap.size := fun g hg => HLT.out g (by rw [hfp] at hg; exact hg)
          have hws : w.heap.size ≤ v6.drew.heap.size := C6.out.o.size
          obtain ⟨A8, o8⟩ := A7.newC S7 SP7 (fun g hg hF => by have := fr7 g hg; have := hfpl g hF; omega) (fun g hg hF => by have := hsub g hg; have := hfpl g hF; omega) (fun g hg hp => by have := fr7 g hg; have : g < v6.drew.heap.size := SP6.out.lt g hp; omega) (c.ep + 1) (1 - c.slot)
          refine ⟨{ x with tv := .slice (some ⟨gz, 0, none⟩) (jz + 1) tc, ov := vo, pv := .slice VA i vc }, rfl, rfl, A8, ((C6.out.o.drew).trans (.of_below hb7)).trans (o8.mono (fun g hg _ => by simp at hg; subst hg; simp [X.fp])), fun g hg => ?_⟩
          have hin : g ∈ ({ x with tv := .slice (some ⟨gz, 0, none⟩) (jz + 1) tc } : X).fp ∨ g ∈ ownS vo ∨ g ∈ ownS (.slice VA i vc) := by
           simp only [X.fp, List.mem_cons, List.mem_append] at hg ⊢
           rcases hg with hg | hg | hg | ((hg | hg) | hg) | hg
           ·exact .inl (.inl hg)
           ·exact .inl (.inr (.inl hg))
           ·exact .inl (.inr (.inr (.inl hg)))
           ·exact .inl (.inr (.inr (.inr (.inl (.inl (.inl hg))))))
           ·exact .inl (.inr (.inr (.inr (.inl (.inl (.inr hg))))))
           ·exact .inr (.inl hg)
           ·exact .inr (.inr hg)
          rcases hin with h | h | h
          ·exact .inl (by rw [hfp] at h; exact h)
          ·exact .inr (Nat.le_trans hws (fr7 g h))
          ·exact .inr (hsub g h))
         clear mm ow g1
         go_wp2_with fail
         refine wp_region_held_drew (S := fun _ => True) (by kernel_rfl) (trivial) (fun hHeld => ?_)
         refine zpl [(0,117),(1,118),(2,119),(3,120),(4,121),(5,122),(6,123),(9,126),(10,127),(11,128),(12,129),(15,132),(16,133),(17,134)] ?_
         iterate 14 (refine ztp (v := ?_) rfl (by kernel_rfl) (fun _ _ _ h => h) (by assumption) ?_ ?_; rotate_left; (·intro w hS; (try dsimp only at hS); go_simp; try with_reducible rfl); try simp only [Act.put, pa, pb, pc])
         refine zpe ?_
         refine wpAnyH_ready (rs := [7, 13, 18]) (by kernel_rfl) (by simp) ?_
         refine AllReadyH.cons (o := ⟨some 124, _, _, _, _, _⟩) rfl (fun K hK => ?_) (AllReadyH.cons (o := ⟨some 130, _, _, _, _, _⟩) rfl (fun K hK => ?_) (AllReadyH.cons (o := ⟨some 135, _, _, _, _, _⟩) rfl (fun K hK => ?_) AllReadyH.nil))
         ·skip
          go_simp
          have gd := d2
          go_simp
          clear gd
          refine hK.out _ _ (trivial) (fun hHeld => ?_)
          try simp only [Act.put, pa, pb, pc]
          refine wpAnyH_ready (rs := [8, 13, 18]) (by kernel_rfl) (by simp) ?_
          refine AllReadyH.cons (o := ⟨some 125, _, _, _, _, _⟩) rfl (fun K hK => ?_) (AllReadyH.cons (o := ⟨some 130, _, _, _, _, _⟩) rfl (fun K hK => ?_) (AllReadyH.cons (o := ⟨some 135, _, _, _, _, _⟩) rfl (fun K hK => ?_) AllReadyH.nil))
          ·skip
           go_simp
           go_at_call 80
           refine (KC.out _ C6.out.a.drew).mono ?_
           rintro e v7 ⟨vo, rfl, S7, hb7, fr7⟩
           have A7 := Lib.hid (C6.out.a.drew.below hb7)
           have PX := Lib.hid (HNC.out v7 vo S7 hb7 fr7)
           obtain ⟨V7, c7, rfl, _⟩ := S7.val
           have h5 : v7.cell? ⟨x.b, 5, none⟩ = some (.int .i64 c.ep) := A7.out.f5
           have h6 : v7.cell? ⟨x.b, 6, none⟩ = some (.int .i64 c.slot) := A7.out.f6
           have h3 := A7.out.hb.cell_some (i := 3) rfl
           have h4 := A7.out.hb.cell_some (i := 4) rfl
           have z3 : v7.frozen? ⟨x.b, 3, none⟩ = false := A7.out.fz 3 (by omega)
           have z4 : v7.frozen? ⟨x.b, 4, none⟩ = false := A7.out.fz 4 (by omega)
           have z5 : v7.frozen? ⟨x.b, 5, none⟩ = false := A7.out.fz 5 (by omega)
           have z6 : v7.frozen? ⟨x.b, 6, none⟩ = false := A7.out.fz 6 (by omega)
           have h3 : v7.cell? ⟨x.b, 3, none⟩ = some x.ov := h3
           have h4 : v7.cell? ⟨x.b, 4, none⟩ = some x.pv := h4
           clear S7 hb7 fr7
           go_simp
           refine hK.out _ _ (trivial) (fun hHeld => ?_)
           try simp only [Act.put, pa, pb, pc]
           refine wpAnyH_ready (rs := [13, 18]) (by kernel_rfl) (by simp) ?_
           refine AllReadyH.cons (o := ⟨some 130, _, _, _, _, _⟩) rfl (fun K hK => ?_) (AllReadyH.cons (o := ⟨some 135, _, _, _, _, _⟩) rfl (fun K hK => ?_) AllReadyH.nil)
           ·skip
            go_simp
            have gd := h5
            go_simp
            clear gd
            refine hK.out _ _ (trivial) (fun hHeld => ?_)
            try simp only [Act.put, pa, pb, pc]
            refine zpl [(14,131)] ?_
            iterate 1 (refine ztp (v := ?_) rfl (by kernel_rfl) (fun _ _ _ h => h) (by assumption) ?_ ?_; rotate_left; (·intro w hS; (try dsimp only at hS); go_simp; try with_reducible rfl); try simp only [Act.put, pa, pb, pc])
            refine zpe ?_
            refine wpAnyH_ready (rs := [18]) (by kernel_rfl) (by simp) ?_
            refine AllReadyH.cons (o := ⟨some 135, _, _, _, _, _⟩) rfl (fun K hK => ?_) AllReadyH.nil
            go_simp
            have gd := h6
            go_simp
            clear gd
            refine hK.out _ _ (trivial) (fun hHeld => ?_)
            try simp only [Act.put, pa, pb, pc]
            refine zpl [(19,136),(20,137),(21,138)] ?_
            iterate 3 (refine ztp (v := ?_) rfl (by kernel_rfl) (fun _ _ _ h => h) (by assumption) ?_ ?_; rotate_left; (·intro w hS; (try dsimp only at hS); go_simp; try with_reducible rfl); try simp only [Act.put, pa, pb, pc])
            refine zpe ?_
            refine wpAnyH_ready (rs := [22]) (by kernel_rfl) (by simp) ?_
            refine AllReadyH.cons (o := ⟨none, _, _, _, _, _⟩) rfl (fun K hK => ?_) AllReadyH.nil
            go_simp
            refine hK.out _ _ (trivial) (fun hHeld => ?_)
            try simp only [Act.put, pa, pb, pc]
            refine zpl [(23,139),(24,140)] ?_
            iterate 2 (refine ztp (v := ?_) rfl (by kernel_rfl) (fun _ _ _ h => h) (by assumption) ?_ ?_; rotate_left; (·intro w hS; (try dsimp only at hS); go_simp; try with_reducible rfl); try simp only [Act.put, pa, pb, pc])
            refine zpe ?_
            refine wpAnyH_ready (rs := [25]) (by kernel_rfl) (by simp) ?_
            refine AllReadyH.cons (o := ⟨none, _, _, _, _, _⟩) rfl (fun K hK => ?_) AllReadyH.nil
            go_simp
            refine hK.out _ _ (trivial) (fun hHeld => ?_)
            try simp only [Act.put, pa, pb, pc]
            refine zpl [(26,141),(27,142)] ?_
            iterate 2 (refine ztp (v := ?_) rfl (by kernel_rfl) (fun _ _ _ h => h) (by assumption) ?_ ?_; rotate_left; (·intro w hS; (try dsimp only at hS); go_simp; try with_reducible rfl); try simp only [Act.put, pa, pb, pc])
            refine zpe ?_
            refine wpAnyH_ready (rs := [28]) (by kernel_rfl) (by simp) ?_
            refine AllReadyH.cons (o := ⟨none, _, _, _, _, _⟩) rfl (fun K hK => ?_) AllReadyH.nil
            go_simp
            refine hK.out _ _ (trivial) (fun hHeld => ?_)
            try simp only [Act.put, pa, pb, pc]
            refine zpl [(29,143),(30,144)] ?_
            iterate 2 (refine ztp (v := ?_) rfl (by kernel_rfl) (fun _ _ _ h => h) (by assumption) ?_ ?_; rotate_left; (·intro w hS; (try dsimp only at hS); go_simp; try with_reducible rfl); try simp only [Act.put, pa, pb, pc])
            refine zpe ?_
            refine wpAnyH_ready (rs := [31]) (by kernel_rfl) (by simp) ?_
            refine AllReadyH.cons (o := ⟨none, _, _, _, _, _⟩) rfl (fun K hK => ?_) AllReadyH.nil
            go_simp
            refine hK.out _ _ (trivial) (fun hHeld => ?_)
            try simp only [Act.put, pa, pb, pc]
            refine wpAnyH_done (by kernel_rfl) ?_ _
            go_wp2_with fail
            go_ret
            first
             | exact ⟨by first | rfl | simp, PX.out⟩
             | exact ⟨by first | rfl | simp, by have q := PX.out; rw [hkl] at q; exact q⟩
           ·skip
            go_simp
            have gd := h6
            go_simp
            clear gd
            refine hK.out _ _ (trivial) (fun hHeld => ?_)
            try simp only [Act.put, pa, pb, pc]
            refine zpl [(19,136)] ?_
            iterate 1 (refine ztp (v := ?_) rfl (by kernel_rfl) (fun _ _ _ h => h) (by assumption) ?_ ?_; rotate_left; (·intro w hS; (try dsimp only at hS); go_simp; try with_reducible rfl); try simp only [Act.put, pa, pb, pc])
            refine zpe ?_
            refine wpAnyH_ready (rs := [13]) (by kernel_rfl) (by simp) ?_
            refine AllReadyH.cons (o := ⟨some 130, _, _, _, _, _⟩) rfl (fun K hK => ?_) AllReadyH.nil
            go_simp
            have gd := h5
            go_simp
            clear gd
            refine hK.out _ _ (trivial) (fun hHeld => ?_)
            try simp only [Act.put, pa, pb, pc]
            refine zpl [(14,131),(20,137),(21,138)] ?_
            iterate 3 (refine ztp (v := ?_) rfl (by kernel_rfl) (fun _ _ _ h => h) (by assumption) ?_ ?_; rotate_left; (·intro w hS; (try dsimp only at hS); go_simp; try with_reducible rfl); try simp only [Act.put, pa, pb, pc])
            refine zpe ?_
            refine wpAnyH_ready (rs := [22]) (by kernel_rfl) (by simp) ?_
            refine AllReadyH.cons (o := ⟨none, _, _, _, _, _⟩) rfl (fun K hK => ?_) AllReadyH.nil
            go_simp
            refine hK.out _ _ (trivial) (fun hHeld => ?_)
            try simp only [Act.put, pa, pb, pc]
            refine zpl [(23,139),(24,140)] ?_
            iterate 2 (refine ztp (v := ?_) rfl (by kernel_rfl) (fun _ _ _ h => h) (by assumption) ?_ ?_; rotate_left; (·intro w hS; (try dsimp only at hS); go_simp; try with_reducible rfl); try simp only [Act.put, pa, pb, pc])
            refine zpe ?_
            refine wpAnyH_ready (rs := [25]) (by kernel_rfl) (by simp) ?_
            refine AllReadyH.cons (o := ⟨none, _, _, _, _, _⟩) rfl (fun K hK => ?_) AllReadyH.nil
            go_simp
            refine hK.out _ _ (trivial) (fun hHeld => ?_)
            try simp only [Act.put, pa, pb, pc]
            refine zpl [(26,141),(27,142)] ?_
            iterate 2 (refine ztp (v := ?_) rfl (by kernel_rfl) (fun _ _ _ h => h) (by assumption) ?_ ?_; rotate_left; (·intro w hS; (try dsimp only at hS); go_simp; try with_reducible rfl); try simp only [Act.put, pa, pb, pc])
            refine zpe ?_
            refine wpAnyH_ready (rs := [28]) (by kernel_rfl) (by simp) ?_
            refine AllReadyH.cons (o := ⟨none, _, _, _, _, _⟩) rfl (fun K hK => ?_) AllReadyH.nil
            go_simp
            refine hK.out _ _ (trivial) (fun hHeld => ?_)
            try simp only [Act.put, pa, pb, pc]
            refine zpl [(29,143),(30,144)] ?_
            iterate 2 (refine ztp (v := ?_) rfl (by kernel_rfl) (fun _ _ _ h => h) (by assumption) ?_ ?_; rotate_left; (·intro w hS; (try dsimp only at hS); go_simp; try with_reducible rfl); try simp only [Act.put, pa, pb, pc])
            refine zpe ?_
            refine wpAnyH_ready (rs := [31]) (by kernel_rfl) (by simp) ?_
            refine AllReadyH.cons (o := ⟨none, _, _, _, _, _⟩) rfl (fun K hK => ?_) AllReadyH.nil
            go_simp
            refine hK.out _ _ (trivial) (fun hHeld => ?_)
            try simp only [Act.put, pa, pb, pc]
            refine wpAnyH_done (by kernel_rfl) ?_ _
            go_wp2_with fail
            go_ret
            first
             | exact ⟨by first | rfl | simp, PX.out⟩
             | exact ⟨by first | rfl | simp, by have q := PX.out; rw [hkl] at q; exact q⟩
          ·skip
           go_simp
           have gd := d5
           go_simp
           clear gd
           refine hK.out _ _ (trivial) (fun hHeld => ?_)
           try simp only [Act.put, pa, pb, pc]
           refine zpl [(14,131)] ?_
           iterate 1 (refine ztp (v := ?_) rfl (by kernel_rfl) (fun _ _ _ h => h) (by assumption) ?_ ?_; rotate_left; (·intro w hS; (try dsimp only at hS); go_simp; try with_reducible rfl); try simp only [Act.put, pa, pb, pc])
           refine zpe ?_
           refine wpAnyH_ready (rs := [8, 18]) (by kernel_rfl) (by simp) ?_
           refine AllReadyH.cons (o := ⟨some 125, _, _, _, _, _⟩) rfl (fun K hK => ?_) (AllReadyH.cons (o := ⟨some 135, _, _, _, _, _⟩) rfl (fun K hK => ?_) AllReadyH.nil)
           ·skip
            go_simp
            go_at_call 80
            refine (KC.out _ C6.out.a.drew).mono ?_
            rintro e v7 ⟨vo, rfl, S7, hb7, fr7⟩
            have A7 := Lib.hid (C6.out.a.drew.below hb7)
            have PX := Lib.hid (HNC.out v7 vo S7 hb7 fr7)
            obtain ⟨V7, c7, rfl, _⟩ := S7.val
            have h5 : v7.cell? ⟨x.b, 5, none⟩ = some (.int .i64 c.ep) := A7.out.f5
            have h6 : v7.cell? ⟨x.b, 6, none⟩ = some (.int .i64 c.slot) := A7.out.f6
            have h3 := A7.out.hb.cell_some (i := 3) rfl
            have h4 := A7.out.hb.cell_some (i := 4) rfl
            have z3 : v7.frozen? ⟨x.b, 3, none⟩ = false := A7.out.fz 3 (by omega)
            have z4 : v7.frozen? ⟨x.b, 4, none⟩ = false := A7.out.fz 4 (by omega)
            have z5 : v7.frozen? ⟨x.b, 5, none⟩ = false := A7.out.fz 5 (by omega)
            have z6 : v7.frozen? ⟨x.b, 6, none⟩ = false := A7.out.fz 6 (by omega)
            have h3 : v7.cell? ⟨x.b, 3, none⟩ = some x.ov := h3
            have h4 : v7.cell? ⟨x.b, 4, none⟩ = some x.pv := h4
            clear S7 hb7 fr7
            go_simp
            refine hK.out _ _ (trivial) (fun hHeld => ?_)
            try simp only [Act.put, pa, pb, pc]
            refine wpAnyH_ready (rs := [18]) (by kernel_rfl) (by simp) ?_
            refine AllReadyH.cons (o := ⟨some 135, _, _, _, _, _⟩) rfl (fun K hK => ?_) AllReadyH.nil
            go_simp
            have gd := h6
            go_simp
            clear gd
            refine hK.out _ _ (trivial) (fun hHeld => ?_)
            try simp only [Act.put, pa, pb, pc]
            refine zpl [(19,136),(20,137),(21,138)] ?_
            iterate 3 (refine ztp (v := ?_) rfl (by kernel_rfl) (fun _ _ _ h => h) (by assumption) ?_ ?_; rotate_left; (·intro w hS; (try dsimp only at hS); go_simp; try with_reducible rfl); try simp only [Act.put, pa, pb, pc])
            refine zpe ?_
            refine wpAnyH_ready (rs := [22]) (by kernel_rfl) (by simp) ?_
            refine AllReadyH.cons (o := ⟨none, _, _, _, _, _⟩) rfl (fun K hK => ?_) AllReadyH.nil
            go_simp
            refine hK.out _ _ (trivial) (fun hHeld => ?_)
            try simp only [Act.put, pa, pb, pc]
            refine zpl [(23,139),(24,140)] ?_
            iterate 2 (refine ztp (v := ?_) rfl (by kernel_rfl) (fun _ _ _ h => h) (by assumption) ?_ ?_; rotate_left; (·intro w hS; (try dsimp only at hS); go_simp; try with_reducible rfl); try simp only [Act.put, pa, pb, pc])
            refine zpe ?_
            refine wpAnyH_ready (rs := [25]) (by kernel_rfl) (by simp) ?_
            refine AllReadyH.cons (o := ⟨none, _, _, _, _, _⟩) rfl (fun K hK => ?_) AllReadyH.nil
            go_simp
            refine hK.out _ _ (trivial) (fun hHeld => ?_)
            try simp only [Act.put, pa, pb, pc]
            refine zpl [(26,141),(27,142)] ?_
            iterate 2 (refine ztp (v := ?_) rfl (by kernel_rfl) (fun _ _ _ h => h) (by assumption) ?_ ?_; rotate_left; (·intro w hS; (try dsimp only at hS); go_simp; try with_reducible rfl); try simp only [Act.put, pa, pb, pc])
            refine zpe ?_
            refine wpAnyH_ready (rs := [28]) (by kernel_rfl) (by simp) ?_
            refine AllReadyH.cons (o := ⟨none, _, _, _, _, _⟩) rfl (fun K hK => ?_) AllReadyH.nil
            go_simp
            refine hK.out _ _ (trivial) (fun hHeld => ?_)
            try simp only [Act.put, pa, pb, pc]
            refine zpl [(29,143),(30,144)] ?_
            iterate 2 (refine ztp (v := ?_) rfl (by kernel_rfl) (fun _ _ _ h => h) (by assumption) ?_ ?_; rotate_left; (·intro w hS; (try dsimp only at hS); go_simp; try with_reducible rfl); try simp only [Act.put, pa, pb, pc])
            refine zpe ?_
            refine wpAnyH_ready (rs := [31]) (by kernel_rfl) (by simp) ?_
            refine AllReadyH.cons (o := ⟨none, _, _, _, _, _⟩) rfl (fun K hK => ?_) AllReadyH.nil
            go_simp
            refine hK.out _ _ (trivial) (fun hHeld => ?_)
            try simp only [Act.put, pa, pb, pc]
            refine wpAnyH_done (by kernel_rfl) ?_ _
            go_wp2_with fail
            go_ret
            first
             | exact ⟨by first | rfl | simp, PX.out⟩
             | exact ⟨by first | rfl | simp, by have q := PX.out; rw [hkl] at q; exact q⟩
           ·skip
            go_simp
            have gd := d6
            go_simp
            clear gd
            refine hK.out _ _ (trivial) (fun hHeld => ?_)
            try simp only [Act.put, pa, pb, pc]
            refine zpl [(19,136)] ?_
            iterate 1 (refine ztp (v := ?_) rfl (by kernel_rfl) (fun _ _ _ h => h) (by assumption) ?_ ?_; rotate_left; (·intro w hS; (try dsimp only at hS); go_simp; try with_reducible rfl); try simp only [Act.put, pa, pb, pc])
            refine zpe ?_
            refine wpAnyH_ready (rs := [8]) (by kernel_rfl) (by simp) ?_
            refine AllReadyH.cons (o := ⟨some 125, _, _, _, _, _⟩) rfl (fun K hK => ?_) AllReadyH.nil
            go_simp
            go_at_call 80
            refine (KC.out _ C6.out.a.drew).mono ?_
            rintro e v7 ⟨vo, rfl, S7, hb7, fr7⟩
            have A7 := Lib.hid (C6.out.a.drew.below hb7)
            have PX := Lib.hid (HNC.out v7 vo S7 hb7 fr7)
            obtain ⟨V7, c7, rfl, _⟩ := S7.val
            have h5 : v7.cell? ⟨x.b, 5, none⟩ = some (.int .i64 c.ep) := A7.out.f5
            have h6 : v7.cell? ⟨x.b, 6, none⟩ = some (.int .i64 c.slot) := A7.out.f6
            have h3 := A7.out.hb.cell_some (i := 3) rfl
            have h4 := A7.out.hb.cell_some (i := 4) rfl
            have z3 : v7.frozen? ⟨x.b, 3, none⟩ = false := A7.out.fz 3 (by omega)
            have z4 : v7.frozen? ⟨x.b, 4, none⟩ = false := A7.out.fz 4 (by omega)
            have z5 : v7.frozen? ⟨x.b, 5, none⟩ = false := A7.out.fz 5 (by omega)
            have z6 : v7.frozen? ⟨x.b, 6, none⟩ = false := A7.out.fz 6 (by omega)
            have h3 : v7.cell? ⟨x.b, 3, none⟩ = some x.ov := h3
            have h4 : v7.cell? ⟨x.b, 4, none⟩ = some x.pv := h4
            clear S7 hb7 fr7
            go_simp
            refine hK.out _ _ (trivial) (fun hHeld => ?_)
            try simp only [Act.put, pa, pb, pc]
            refine zpl [(20,137),(21,138)] ?_
            iterate 2 (refine ztp (v := ?_) rfl (by kernel_rfl) (fun _ _ _ h => h) (by assumption) ?_ ?_; rotate_left; (·intro w hS; (try dsimp only at hS); go_simp; try with_reducible rfl); try simp only [Act.put, pa, pb, pc])
            refine zpe ?_
            refine wpAnyH_ready (rs := [22]) (by kernel_rfl) (by simp) ?_
            refine AllReadyH.cons (o := ⟨none, _, _, _, _, _⟩) rfl (fun K hK => ?_) AllReadyH.nil
            go_simp
            refine hK.out _ _ (trivial) (fun hHeld => ?_)
            try simp only [Act.put, pa, pb, pc]
            refine zpl [(23,139),(24,140)] ?_
            iterate 2 (refine ztp (v := ?_) rfl (by kernel_rfl) (fun _ _ _ h => h) (by assumption) ?_ ?_; rotate_left; (·intro w hS; (try dsimp only at hS); go_simp; try with_reducible rfl); try simp only [Act.put, pa, pb, pc])
            refine zpe ?_
            refine wpAnyH_ready (rs := [25]) (by kernel_rfl) (by simp) ?_
            refine AllReadyH.cons (o := ⟨none, _, _, _, _, _⟩) rfl (fun K hK => ?_) AllReadyH.nil
            go_simp
            refine hK.out _ _ (trivial) (fun hHeld => ?_)
            try simp only [Act.put, pa, pb, pc]
            refine zpl [(26,141),(27,142)] ?_
            iterate 2 (refine ztp (v := ?_) rfl (by kernel_rfl) (fun _ _ _ h => h) (by assumption) ?_ ?_; rotate_left; (·intro w hS; (try dsimp only at hS); go_simp; try with_reducible rfl); try simp only [Act.put, pa, pb, pc])
            refine zpe ?_
            refine wpAnyH_ready (rs := [28]) (by kernel_rfl) (by simp) ?_
            refine AllReadyH.cons (o := ⟨none, _, _, _, _, _⟩) rfl (fun K hK => ?_) AllReadyH.nil
            go_simp
            refine hK.out _ _ (trivial) (fun hHeld => ?_)
            try simp only [Act.put, pa, pb, pc]
            refine zpl [(29,143),(30,144)] ?_
            iterate 2 (refine ztp (v := ?_) rfl (by kernel_rfl) (fun _ _ _ h => h) (by assumption) ?_ ?_; rotate_left; (·intro w hS; (try dsimp only at hS); go_simp; try with_reducible rfl); try simp only [Act.put, pa, pb, pc])
            refine zpe ?_
            refine wpAnyH_ready (rs := [31]) (by kernel_rfl) (by simp) ?_
            refine AllReadyH.cons (o := ⟨none, _, _, _, _, _⟩) rfl (fun K hK => ?_) AllReadyH.nil
            go_simp
            refine hK.out _ _ (trivial) (fun hHeld => ?_)
            try simp only [Act.put, pa, pb, pc]
            refine wpAnyH_done (by kernel_rfl) ?_ _
            go_wp2_with fail
            go_ret
            first
             | exact ⟨by first | rfl | simp, PX.out⟩
             | exact ⟨by first | rfl | simp, by have q := PX.out; rw [hkl] at q; exact q⟩
          ·skip
           go_simp
           have gd := d6
           go_simp
           clear gd
           refine hK.out _ _ (trivial) (fun hHeld => ?_)
           try simp only [Act.put, pa, pb, pc]
           refine zpl [(19,136)] ?_
           iterate 1 (refine ztp (v := ?_) rfl (by kernel_rfl) (fun _ _ _ h => h) (by assumption) ?_ ?_; rotate_left; (·intro w hS; (try dsimp only at hS); go_simp; try with_reducible rfl); try simp only [Act.put, pa, pb, pc])
           refine zpe ?_
           refine wpAnyH_ready (rs := [8, 13]) (by kernel_rfl) (by simp) ?_
           refine AllReadyH.cons (o := ⟨some 125, _, _, _, _, _⟩) rfl (fun K hK => ?_) (AllReadyH.cons (o := ⟨some 130, _, _, _, _, _⟩) rfl (fun K hK => ?_) AllReadyH.nil)
           ·skip
            go_simp
            go_at_call 80
            refine (KC.out _ C6.out.a.drew).mono ?_
            rintro e v7 ⟨vo, rfl, S7, hb7, fr7⟩
            have A7 := Lib.hid (C6.out.a.drew.below hb7)
            have PX := Lib.hid (HNC.out v7 vo S7 hb7 fr7)
            obtain ⟨V7, c7, rfl, _⟩ := S7.val
            have h5 : v7.cell? ⟨x.b, 5, none⟩ = some (.int .i64 c.ep) := A7.out.f5
            have h6 : v7.cell? ⟨x.b, 6, none⟩ = some (.int .i64 c.slot) := A7.out.f6
            have h3 := A7.out.hb.cell_some (i := 3) rfl
            have h4 := A7.out.hb.cell_some (i := 4) rfl
            have z3 : v7.frozen? ⟨x.b, 3, none⟩ = false := A7.out.fz 3 (by omega)
            have z4 : v7.frozen? ⟨x.b, 4, none⟩ = false := A7.out.fz 4 (by omega)
            have z5 : v7.frozen? ⟨x.b, 5, none⟩ = false := A7.out.fz 5 (by omega)
            have z6 : v7.frozen? ⟨x.b, 6, none⟩ = false := A7.out.fz 6 (by omega)
            have h3 : v7.cell? ⟨x.b, 3, none⟩ = some x.ov := h3
            have h4 : v7.cell? ⟨x.b, 4, none⟩ = some x.pv := h4
            clear S7 hb7 fr7
            go_simp
            refine hK.out _ _ (trivial) (fun hHeld => ?_)
            try simp only [Act.put, pa, pb, pc]
            refine wpAnyH_ready (rs := [13]) (by kernel_rfl) (by simp) ?_
            refine AllReadyH.cons (o := ⟨some 130, _, _, _, _, _⟩) rfl (fun K hK => ?_) AllReadyH.nil
            go_simp
            have gd := h5
            go_simp
            clear gd
            refine hK.out _ _ (trivial) (fun hHeld => ?_)
            try simp only [Act.put, pa, pb, pc]
            refine zpl [(14,131),(20,137),(21,138)] ?_
            iterate 3 (refine ztp (v := ?_) rfl (by kernel_rfl) (fun _ _ _ h => h) (by assumption) ?_ ?_; rotate_left; (·intro w hS; (try dsimp only at hS); go_simp; try with_reducible rfl); try simp only [Act.put, pa, pb, pc])
            refine zpe ?_
            refine wpAnyH_ready (rs := [22]) (by kernel_rfl) (by simp) ?_
            refine AllReadyH.cons (o := ⟨none, _, _, _, _, _⟩) rfl (fun K hK => ?_) AllReadyH.nil
            go_simp
            refine hK.out _ _ (trivial) (fun hHeld => ?_)
            try simp only [Act.put, pa, pb, pc]
            refine zpl [(23,139),(24,140)] ?_
            iterate 2 (refine ztp (v := ?_) rfl (by kernel_rfl) (fun _ _ _ h => h) (by assumption) ?_ ?_; rotate_left; (·intro w hS; (try dsimp only at hS); go_simp; try with_reducible rfl); try simp only [Act.put, pa, pb, pc])
            refine zpe ?_
            refine wpAnyH_ready (rs := [25]) (by kernel_rfl) (by simp) ?_
            refine AllReadyH.cons (o := ⟨none, _, _, _, _, _⟩) rfl (fun K hK => ?_) AllReadyH.nil
            go_simp
            refine hK.out _ _ (trivial) (fun hHeld => ?_)
            try simp only [Act.put, pa, pb, pc]
            refine zpl [(26,141),(27,142)] ?_
            iterate 2 (refine ztp (v := ?_) rfl (by kernel_rfl) (fun _ _ _ h => h) (by assumption) ?_ ?_; rotate_left; (·intro w hS; (try dsimp only at hS); go_simp; try with_reducible rfl); try simp only [Act.put, pa, pb, pc])
            refine zpe ?_
            refine wpAnyH_ready (rs := [28]) (by kernel_rfl) (by simp) ?_
            refine AllReadyH.cons (o := ⟨none, _, _, _, _, _⟩) rfl (fun K hK => ?_) AllReadyH.nil
            go_simp
            refine hK.out _ _ (trivial) (fun hHeld => ?_)
            try simp only [Act.put, pa, pb, pc]
            refine zpl [(29,143),(30,144)] ?_
            iterate 2 (refine ztp (v := ?_) rfl (by kernel_rfl) (fun _ _ _ h => h) (by assumption) ?_ ?_; rotate_left; (·intro w hS; (try dsimp only at hS); go_simp; try with_reducible rfl); try simp only [Act.put, pa, pb, pc])
            refine zpe ?_
            refine wpAnyH_ready (rs := [31]) (by kernel_rfl) (by simp) ?_
            refine AllReadyH.cons (o := ⟨none, _, _, _, _, _⟩) rfl (fun K hK => ?_) AllReadyH.nil
            go_simp
            refine hK.out _ _ (trivial) (fun hHeld => ?_)
            try simp only [Act.put, pa, pb, pc]
            refine wpAnyH_done (by kernel_rfl) ?_ _
            go_wp2_with fail
            go_ret
            first
             | exact ⟨by first | rfl | simp, PX.out⟩
             | exact ⟨by first | rfl | simp, by have q := PX.out; rw [hkl] at q; exact q⟩
           ·skip
            go_simp
            have gd := d5
            go_simp
            clear gd
            refine hK.out _ _ (trivial) (fun hHeld => ?_)
            try simp only [Act.put, pa, pb, pc]
            refine zpl [(14,131)] ?_
            iterate 1 (refine ztp (v := ?_) rfl (by kernel_rfl) (fun _ _ _ h => h) (by assumption) ?_ ?_; rotate_left; (·intro w hS; (try dsimp only at hS); go_simp; try with_reducible rfl); try simp only [Act.put, pa, pb, pc])
            refine zpe ?_
            refine wpAnyH_ready (rs := [8]) (by kernel_rfl) (by simp) ?_
            refine AllReadyH.cons (o := ⟨some 125, _, _, _, _, _⟩) rfl (fun K hK => ?_) AllReadyH.nil
            go_simp
            go_at_call 80
            refine (KC.out _ C6.out.a.drew).mono ?_
            rintro e v7 ⟨vo, rfl, S7, hb7, fr7⟩
            have A7 := Lib.hid (C6.out.a.drew.below hb7)
            have PX := Lib.hid (HNC.out v7 vo S7 hb7 fr7)
            obtain ⟨V7, c7, rfl, _⟩ := S7.val
            have h5 : v7.cell? ⟨x.b, 5, none⟩ = some (.int .i64 c.ep) := A7.out.f5
            have h6 : v7.cell? ⟨x.b, 6, none⟩ = some (.int .i64 c.slot) := A7.out.f6
            have h3 := A7.out.hb.cell_some (i := 3) rfl
            have h4 := A7.out.hb.cell_some (i := 4) rfl
            have z3 : v7.frozen? ⟨x.b, 3, none⟩ = false := A7.out.fz 3 (by omega)
            have z4 : v7.frozen? ⟨x.b, 4, none⟩ = false := A7.out.fz 4 (by omega)
            have z5 : v7.frozen? ⟨x.b, 5, none⟩ = false := A7.out.fz 5 (by omega)
            have z6 : v7.frozen? ⟨x.b, 6, none⟩ = false := A7.out.fz 6 (by omega)
            have h3 : v7.cell? ⟨x.b, 3, none⟩ = some x.ov := h3
            have h4 : v7.cell? ⟨x.b, 4, none⟩ = some x.pv := h4
            clear S7 hb7 fr7
            go_simp
            refine hK.out _ _ (trivial) (fun hHeld => ?_)
            try simp only [Act.put, pa, pb, pc]
            refine zpl [(20,137),(21,138)] ?_
            iterate 2 (refine ztp (v := ?_) rfl (by kernel_rfl) (fun _ _ _ h => h) (by assumption) ?_ ?_; rotate_left; (·intro w hS; (try dsimp only at hS); go_simp; try with_reducible rfl); try simp only [Act.put, pa, pb, pc])
            refine zpe ?_
            refine wpAnyH_ready (rs := [22]) (by kernel_rfl) (by simp) ?_
            refine AllReadyH.cons (o := ⟨none, _, _, _, _, _⟩) rfl (fun K hK => ?_) AllReadyH.nil
            go_simp
            refine hK.out _ _ (trivial) (fun hHeld => ?_)
            try simp only [Act.put, pa, pb, pc]
            refine zpl [(23,139),(24,140)] ?_
            iterate 2 (refine ztp (v := ?_) rfl (by kernel_rfl) (fun _ _ _ h => h) (by assumption) ?_ ?_; rotate_left; (·intro w hS; (try dsimp only at hS); go_simp; try with_reducible rfl); try simp only [Act.put, pa, pb, pc])
            refine zpe ?_
            refine wpAnyH_ready (rs := [25]) (by kernel_rfl) (by simp) ?_
            refine AllReadyH.cons (o := ⟨none, _, _, _, _, _⟩) rfl (fun K hK => ?_) AllReadyH.nil
            go_simp
            refine hK.out _ _ (trivial) (fun hHeld => ?_)
            try simp only [Act.put, pa, pb, pc]
            refine zpl [(26,141),(27,142)] ?_
            iterate 2 (refine ztp (v := ?_) rfl (by kernel_rfl) (fun _ _ _ h => h) (by assumption) ?_ ?_; rotate_left; (·intro w hS; (try dsimp only at hS); go_simp; try with_reducible rfl); try simp only [Act.put, pa, pb, pc])
            refine zpe ?_
            refine wpAnyH_ready (rs := [28]) (by kernel_rfl) (by simp) ?_
            refine AllReadyH.cons (o := ⟨none, _, _, _, _, _⟩) rfl (fun K hK => ?_) AllReadyH.nil
            go_simp
            refine hK.out _ _ (trivial) (fun hHeld => ?_)
            try simp only [Act.put, pa, pb, pc]
            refine zpl [(29,143),(30,144)] ?_
            iterate 2 (refine ztp (v := ?_) rfl (by kernel_rfl) (fun _ _ _ h => h) (by assumption) ?_ ?_; rotate_left; (·intro w hS; (try dsimp only at hS); go_simp; try with_reducible rfl); try simp only [Act.put, pa, pb, pc])
            refine zpe ?_
            refine wpAnyH_ready (rs := [31]) (by kernel_rfl) (by simp) ?_
            refine AllReadyH.cons (o := ⟨none, _, _, _, _, _⟩) rfl (fun K hK => ?_) AllReadyH.nil
            go_simp
            refine hK.out _ _ (trivial) (fun hHeld => ?_)
            try simp only [Act.put, pa, pb, pc]
            refine wpAnyH_done (by kernel_rfl) ?_ _
            go_wp2_with fail
            go_ret
            first
             | exact ⟨by first | rfl | simp, PX.out⟩
             | exact ⟨by first | rfl | simp, by have q := PX.out; rw [hkl] at q; exact q⟩
         ·skip
          go_simp
          have gd := d5
          go_simp
          clear gd
          refine hK.out _ _ (trivial) (fun hHeld => ?_)
          try simp only [Act.put, pa, pb, pc]
          refine zpl [(14,131)] ?_
          iterate 1 (refine ztp (v := ?_) rfl (by kernel_rfl) (fun _ _ _ h => h) (by assumption) ?_ ?_; rotate_left; (·intro w hS; (try dsimp only at hS); go_simp; try with_reducible rfl); try simp only [Act.put, pa, pb, pc])
          refine zpe ?_
          refine wpAnyH_ready (rs := [7, 18]) (by kernel_rfl) (by simp) ?_
          refine AllReadyH.cons (o := ⟨some 124, _, _, _, _, _⟩) rfl (fun K hK => ?_) (AllReadyH.cons (o := ⟨some 135, _, _, _, _, _⟩) rfl (fun K hK => ?_) AllReadyH.nil)
          ·skip
           go_simp
           have gd := d2
           go_simp
           clear gd
           refine hK.out _ _ (trivial) (fun hHeld => ?_)
           try simp only [Act.put, pa, pb, pc]
           refine wpAnyH_ready (rs := [8, 18]) (by kernel_rfl) (by simp) ?_
           refine AllReadyH.cons (o := ⟨some 125, _, _, _, _, _⟩) rfl (fun K hK => ?_) (AllReadyH.cons (o := ⟨some 135, _, _, _, _, _⟩) rfl (fun K hK => ?_) AllReadyH.nil)
           ·skip
            go_simp
            go_at_call 80
            refine (KC.out _ C6.out.a.drew).mono ?_
            rintro e v7 ⟨vo, rfl, S7, hb7, fr7⟩
            have A7 := Lib.hid (C6.out.a.drew.below hb7)
            have PX := Lib.hid (HNC.out v7 vo S7 hb7 fr7)
            obtain ⟨V7, c7, rfl, _⟩ := S7.val
            have h5 : v7.cell? ⟨x.b, 5, none⟩ = some (.int .i64 c.ep) := A7.out.f5
            have h6 : v7.cell? ⟨x.b, 6, none⟩ = some (.int .i64 c.slot) := A7.out.f6
            have h3 := A7.out.hb.cell_some (i := 3) rfl
            have h4 := A7.out.hb.cell_some (i := 4) rfl
            have z3 : v7.frozen? ⟨x.b, 3, none⟩ = false := A7.out.fz 3 (by omega)
            have z4 : v7.frozen? ⟨x.b, 4, none⟩ = false := A7.out.fz 4 (by omega)
            have z5 : v7.frozen? ⟨x.b, 5, none⟩ = false := A7.out.fz 5 (by omega)
            have z6 : v7.frozen? ⟨x.b, 6, none⟩ = false := A7.out.fz 6 (by omega)
            have h3 : v7.cell? ⟨x.b, 3, none⟩ = some x.ov := h3
            have h4 : v7.cell? ⟨x.b, 4, none⟩ = some x.pv := h4
            clear S7 hb7 fr7
            go_simp
            refine hK.out _ _ (trivial) (fun hHeld => ?_)
            try simp only [Act.put, pa, pb, pc]
            refine wpAnyH_ready (rs := [18]) (by kernel_rfl) (by simp) ?_
            refine AllReadyH.cons (o := ⟨some 135, _, _, _, _, _⟩) rfl (fun K hK => ?_) AllReadyH.nil
            go_simp
            have gd := h6
            go_simp
            clear gd
            refine hK.out _ _ (trivial) (fun hHeld => ?_)
            try simp only [Act.put, pa, pb, pc]
            refine zpl [(19,136),(20,137),(21,138)] ?_
            iterate 3 (refine ztp (v := ?_) rfl (by kernel_rfl) (fun _ _ _ h => h) (by assumption) ?_ ?_; rotate_left; (·intro w hS; (try dsimp only at hS); go_simp; try with_reducible rfl); try simp only [Act.put, pa, pb, pc])
            refine zpe ?_
            refine wpAnyH_ready (rs := [22]) (by kernel_rfl) (by simp) ?_
            refine AllReadyH.cons (o := ⟨none, _, _, _, _, _⟩) rfl (fun K hK => ?_) AllReadyH.nil
            go_simp
            refine hK.out _ _ (trivial) (fun hHeld => ?_)
            try simp only [Act.put, pa, pb, pc]
            refine zpl [(23,139),(24,140)] ?_
            iterate 2 (refine ztp (v := ?_) rfl (by kernel_rfl) (fun _ _ _ h => h) (by assumption) ?_ ?_; rotate_left; (·intro w hS; (try dsimp only at hS); go_simp; try with_reducible rfl); try simp only [Act.put, pa, pb, pc])
            refine zpe ?_
            refine wpAnyH_ready (rs := [25]) (by kernel_rfl) (by simp) ?_
            refine AllReadyH.cons (o := ⟨none, _, _, _, _, _⟩) rfl (fun K hK => ?_) AllReadyH.nil
            go_simp
            refine hK.out _ _ (trivial) (fun hHeld => ?_)
            try simp only [Act.put, pa, pb, pc]
            refine zpl [(26,141),(27,142)] ?_
            iterate 2 (refine ztp (v := ?_) rfl (by kernel_rfl) (fun _ _ _ h => h) (by assumption) ?_ ?_; rotate_left; (·intro w hS; (try dsimp only at hS); go_simp; try with_reducible rfl); try simp only [Act.put, pa, pb, pc])
            refine zpe ?_
            refine wpAnyH_ready (rs := [28]) (by kernel_rfl) (by simp) ?_
            refine AllReadyH.cons (o := ⟨none, _, _, _, _, _⟩) rfl (fun K hK => ?_) AllReadyH.nil
            go_simp
            refine hK.out _ _ (trivial) (fun hHeld => ?_)
            try simp only [Act.put, pa, pb, pc]
            refine zpl [(29,143),(30,144)] ?_
            iterate 2 (refine ztp (v := ?_) rfl (by kernel_rfl) (fun _ _ _ h => h) (by assumption) ?_ ?_; rotate_left; (·intro w hS; (try dsimp only at hS); go_simp; try with_reducible rfl); try simp only [Act.put, pa, pb, pc])
            refine zpe ?_
            refine wpAnyH_ready (rs := [31]) (by kernel_rfl) (by simp) ?_
            refine AllReadyH.cons (o := ⟨none, _, _, _, _, _⟩) rfl (fun K hK => ?_) AllReadyH.nil
            go_simp
            refine hK.out _ _ (trivial) (fun hHeld => ?_)
            try simp only [Act.put, pa, pb, pc]
            refine wpAnyH_done (by kernel_rfl) ?_ _
            go_wp2_with fail
            go_ret
            first
             | exact ⟨by first | rfl | simp, PX.out⟩
             | exact ⟨by first | rfl | simp, by have q := PX.out; rw [hkl] at q; exact q⟩
           ·skip
            go_simp
            have gd := d6
            go_simp
            clear gd
            refine hK.out _ _ (trivial) (fun hHeld => ?_)
            try simp only [Act.put, pa, pb, pc]
            refine zpl [(19,136)] ?_
            iterate 1 (refine ztp (v := ?_) rfl (by kernel_rfl) (fun _ _ _ h => h) (by assumption) ?_ ?_; rotate_left; (·intro w hS; (try dsimp only at hS); go_simp; try with_reducible rfl); try simp only [Act.put, pa, pb, pc])
            refine zpe ?_
            refine wpAnyH_ready (rs := [8]) (by kernel_rfl) (by simp) ?_
            refine AllReadyH.cons (o := ⟨some 125, _, _, _, _, _⟩) rfl (fun K hK => ?_) AllReadyH.nil
            go_simp
            go_at_call 80
            refine (KC.out _ C6.out.a.drew).mono ?_
            rintro e v7 ⟨vo, rfl, S7, hb7, fr7⟩
            have A7 := Lib.hid (C6.out.a.drew.below hb7)
            have PX := Lib.hid (HNC.out v7 vo S7 hb7 fr7)
            obtain ⟨V7, c7, rfl, _⟩ := S7.val
            have h5 : v7.cell? ⟨x.b, 5, none⟩ = some (.int .i64 c.ep) := A7.out.f5
            have h6 : v7.cell? ⟨x.b, 6, none⟩ = some (.int .i64 c.slot) := A7.out.f6
            have h3 := A7.out.hb.cell_some (i := 3) rfl
            have h4 := A7.out.hb.cell_some (i := 4) rfl
            have z3 : v7.frozen? ⟨x.b, 3, none⟩ = false := A7.out.fz 3 (by omega)
            have z4 : v7.frozen? ⟨x.b, 4, none⟩ = false := A7.out.fz 4 (by omega)
            have z5 : v7.frozen? ⟨x.b, 5, none⟩ = false := A7.out.fz 5 (by omega)
            have z6 : v7.frozen? ⟨x.b, 6, none⟩ = false := A7.out.fz 6 (by omega)
            have h3 : v7.cell? ⟨x.b, 3, none⟩ = some x.ov := h3
            have h4 : v7.cell? ⟨x.b, 4, none⟩ = some x.pv := h4
            clear S7 hb7 fr7
            go_simp
            refine hK.out _ _ (trivial) (fun hHeld => ?_)
            try simp only [Act.put, pa, pb, pc]
            refine zpl [(20,137),(21,138)] ?_
            iterate 2 (refine ztp (v := ?_) rfl (by kernel_rfl) (fun _ _ _ h => h) (by assumption) ?_ ?_; rotate_left; (·intro w hS; (try dsimp only at hS); go_simp; try with_reducible rfl); try simp only [Act.put, pa, pb, pc])
            refine zpe ?_
            refine wpAnyH_ready (rs := [22]) (by kernel_rfl) (by simp) ?_
            refine AllReadyH.cons (o := ⟨none, _, _, _, _, _⟩) rfl (fun K hK => ?_) AllReadyH.nil
            go_simp
            refine hK.out _ _ (trivial) (fun hHeld => ?_)
            try simp only [Act.put, pa, pb, pc]
            refine zpl [(23,139),(24,140)] ?_
            iterate 2 (refine ztp (v := ?_) rfl (by kernel_rfl) (fun _ _ _ h => h) (by assumption) ?_ ?_; rotate_left; (·intro w hS; (try dsimp only at hS); go_simp; try with_reducible rfl); try simp only [Act.put, pa, pb, pc])
            refine zpe ?_
            refine wpAnyH_ready (rs := [25]) (by kernel_rfl) (by simp) ?_
            refine AllReadyH.cons (o := ⟨none, _, _, _, _, _⟩) rfl (fun K hK => ?_) AllReadyH.nil
            go_simp
            refine hK.out _ _ (trivial) (fun hHeld => ?_)
            try simp only [Act.put, pa, pb, pc]
            refine zpl [(26,141),(27,142)] ?_
            iterate 2 (refine ztp (v := ?_) rfl (by kernel_rfl) (fun _ _ _ h => h) (by assumption) ?_ ?_; rotate_left; (·intro w hS; (try dsimp only at hS); go_simp; try with_reducible rfl); try simp only [Act.put, pa, pb, pc])
            refine zpe ?_
            refine wpAnyH_ready (rs := [28]) (by kernel_rfl) (by simp) ?_
            refine AllReadyH.cons (o := ⟨none, _, _, _, _, _⟩) rfl (fun K hK => ?_) AllReadyH.nil
            go_simp
            refine hK.out _ _ (trivial) (fun hHeld => ?_)
            try simp only [Act.put, pa, pb, pc]
            refine zpl [(29,143),(30,144)] ?_
            iterate 2 (refine ztp (v := ?_) rfl (by kernel_rfl) (fun _ _ _ h => h) (by assumption) ?_ ?_; rotate_left; (·intro w hS; (try dsimp only at hS); go_simp; try with_reducible rfl); try simp only [Act.put, pa, pb, pc])
            refine zpe ?_
            refine wpAnyH_ready (rs := [31]) (by kernel_rfl) (by simp) ?_
            refine AllReadyH.cons (o := ⟨none, _, _, _, _, _⟩) rfl (fun K hK => ?_) AllReadyH.nil
            go_simp
            refine hK.out _ _ (trivial) (fun hHeld => ?_)
            try simp only [Act.put, pa, pb, pc]
            refine wpAnyH_done (by kernel_rfl) ?_ _
            go_wp2_with fail
            go_ret
            first
             | exact ⟨by first | rfl | simp, PX.out⟩
             | exact ⟨by first | rfl | simp, by have q := PX.out; rw [hkl] at q; exact q⟩
          ·skip
           go_simp
           have gd := d6
           go_simp
           clear gd
           refine hK.out _ _ (trivial) (fun hHeld => ?_)
           try simp only [Act.put, pa, pb, pc]
           refine zpl [(19,136)] ?_
           iterate 1 (refine ztp (v := ?_) rfl (by kernel_rfl) (fun _ _ _ h => h) (by assumption) ?_ ?_; rotate_left; (·intro w hS; (try dsimp only at hS); go_simp; try with_reducible rfl); try simp only [Act.put, pa, pb, pc])
           refine zpe ?_
           refine wpAnyH_ready (rs := [7]) (by kernel_rfl) (by simp) ?_
           refine AllReadyH.cons (o := ⟨some 124, _, _, _, _, _⟩) rfl (fun K hK => ?_) AllReadyH.nil
           go_simp
           have gd := d2
           go_simp
           clear gd
           refine hK.out _ _ (trivial) (fun hHeld => ?_)
           try simp only [Act.put, pa, pb, pc]
           refine wpAnyH_ready (rs := [8]) (by kernel_rfl) (by simp) ?_
           refine AllReadyH.cons (o := ⟨some 125, _, _, _, _, _⟩) rfl (fun K hK => ?_) AllReadyH.nil
           go_simp
           go_at_call 80
           refine (KC.out _ C6.out.a.drew).mono ?_
           rintro e v7 ⟨vo, rfl, S7, hb7, fr7⟩
           have A7 := Lib.hid (C6.out.a.drew.below hb7)
           have PX := Lib.hid (HNC.out v7 vo S7 hb7 fr7)
           obtain ⟨V7, c7, rfl, _⟩ := S7.val
           have h5 : v7.cell? ⟨x.b, 5, none⟩ = some (.int .i64 c.ep) := A7.out.f5
           have h6 : v7.cell? ⟨x.b, 6, none⟩ = some (.int .i64 c.slot) := A7.out.f6
           have h3 := A7.out.hb.cell_some (i := 3) rfl
           have h4 := A7.out.hb.cell_some (i := 4) rfl
           have z3 : v7.frozen? ⟨x.b, 3, none⟩ = false := A7.out.fz 3 (by omega)
           have z4 : v7.frozen? ⟨x.b, 4, none⟩ = false := A7.out.fz 4 (by omega)
           have z5 : v7.frozen? ⟨x.b, 5, none⟩ = false := A7.out.fz 5 (by omega)
           have z6 : v7.frozen? ⟨x.b, 6, none⟩ = false := A7.out.fz 6 (by omega)
           have h3 : v7.cell? ⟨x.b, 3, none⟩ = some x.ov := h3
           have h4 : v7.cell? ⟨x.b, 4, none⟩ = some x.pv := h4
           clear S7 hb7 fr7
           go_simp
           refine hK.out _ _ (trivial) (fun hHeld => ?_)
           try simp only [Act.put, pa, pb, pc]
           refine zpl [(20,137),(21,138)] ?_
           iterate 2 (refine ztp (v := ?_) rfl (by kernel_rfl) (fun _ _ _ h => h) (by assumption) ?_ ?_; rotate_left; (·intro w hS; (try dsimp only at hS); go_simp; try with_reducible rfl); try simp only [Act.put, pa, pb, pc])
           refine zpe ?_
           refine wpAnyH_ready (rs := [22]) (by kernel_rfl) (by simp) ?_
           refine AllReadyH.cons (o := ⟨none, _, _, _, _, _⟩) rfl (fun K hK => ?_) AllReadyH.nil
           go_simp
           refine hK.out _ _ (trivial) (fun hHeld => ?_)
           try simp only [Act.put, pa, pb, pc]
           refine zpl [(23,139),(24,140)] ?_
           iterate 2 (refine ztp (v := ?_) rfl (by kernel_rfl) (fun _ _ _ h => h) (by assumption) ?_ ?_; rotate_left; (·intro w hS; (try dsimp only at hS); go_simp; try with_reducible rfl); try simp only [Act.put, pa, pb, pc])
           refine zpe ?_
           refine wpAnyH_ready (rs := [25]) (by kernel_rfl) (by simp) ?_
           refine AllReadyH.cons (o := ⟨none, _, _, _, _, _⟩) rfl (fun K hK => ?_) AllReadyH.nil
           go_simp
           refine hK.out _ _ (trivial) (fun hHeld => ?_)
           try simp only [Act.put, pa, pb, pc]
           refine zpl [(26,141),(27,142)] ?_
           iterate 2 (refine ztp (v := ?_) rfl (by kernel_rfl) (fun _ _ _ h => h) (by assumption) ?_ ?_; rotate_left; (·intro w hS; (try dsimp only at hS); go_simp; try with_reducible rfl); try simp only [Act.put, pa, pb, pc])
           refine zpe ?_
           refine wpAnyH_ready (rs := [28]) (by kernel_rfl) (by simp) ?_
           refine AllReadyH.cons (o := ⟨none, _, _, _, _, _⟩) rfl (fun K hK => ?_) AllReadyH.nil
           go_simp
           refine hK.out _ _ (trivial) (fun hHeld => ?_)
           try simp only [Act.put, pa, pb, pc]
           refine zpl [(29,143),(30,144)] ?_
           iterate 2 (refine ztp (v := ?_) rfl (by kernel_rfl) (fun _ _ _ h => h) (by assumption) ?_ ?_; rotate_left; (·intro w hS; (try dsimp only at hS); go_simp; try with_reducible rfl); try simp only [Act.put, pa, pb, pc])
           refine zpe ?_
           refine wpAnyH_ready (rs := [31]) (by kernel_rfl) (by simp) ?_
           refine AllReadyH.cons (o := ⟨none, _, _, _, _, _⟩) rfl (fun K hK => ?_) AllReadyH.nil
           go_simp
           refine hK.out _ _ (trivial) (fun hHeld => ?_)
           try simp only [Act.put, pa, pb, pc]
           refine wpAnyH_done (by kernel_rfl) ?_ _
           go_wp2_with fail
           go_ret
           first
            | exact ⟨by first | rfl | simp, PX.out⟩
            | exact ⟨by first | rfl | simp, by have q := PX.out; rw [hkl] at q; exact q⟩
         ·skip
          go_simp
          have gd := d6
          go_simp
          clear gd
          refine hK.out _ _ (trivial) (fun hHeld => ?_)
          try simp only [Act.put, pa, pb, pc]
          refine zpl [(19,136)] ?_
          iterate 1 (refine ztp (v := ?_) rfl (by kernel_rfl) (fun _ _ _ h => h) (by assumption) ?_ ?_; rotate_left; (·intro w hS; (try dsimp only at hS); go_simp; try with_reducible rfl); try simp only [Act.put, pa, pb, pc])
          refine zpe ?_
          refine wpAnyH_ready (rs := [7, 13]) (by kernel_rfl) (by simp) ?_
          refine AllReadyH.cons (o := ⟨some 124, _, _, _, _, _⟩) rfl (fun K hK => ?_) (AllReadyH.cons (o := ⟨some 130, _, _, _, _, _⟩) rfl (fun K hK => ?_) AllReadyH.nil)
          ·skip
           go_simp
           have gd := d2
           go_simp
           clear gd
           refine hK.out _ _ (trivial) (fun hHeld => ?_)
           try simp only [Act.put, pa, pb, pc]
           refine wpAnyH_ready (rs := [8, 13]) (by kernel_rfl) (by simp) ?_
           refine AllReadyH.cons (o := ⟨some 125, _, _, _, _, _⟩) rfl (fun K hK => ?_) (AllReadyH.cons (o := ⟨some 130, _, _, _, _, _⟩) rfl (fun K hK => ?_) AllReadyH.nil)
           ·skip
            go_simp
            go_at_call 80
            refine (KC.out _ C6.out.a.drew).mono ?_
            rintro e v7 ⟨vo, rfl, S7, hb7, fr7⟩
            have A7 := Lib.hid (C6.out.a.drew.below hb7)
            have PX := Lib.hid (HNC.out v7 vo S7 hb7 fr7)
            obtain ⟨V7, c7, rfl, _⟩ := S7.val
            have h5 : v7.cell? ⟨x.b, 5, none⟩ = some (.int .i64 c.ep) := A7.out.f5
            have h6 : v7.cell? ⟨x.b, 6, none⟩ = some (.int .i64 c.slot) := A7.out.f6
            have h3 := A7.out.hb.cell_some (i := 3) rfl
            have h4 := A7.out.hb.cell_some (i := 4) rfl
            have z3 : v7.frozen? ⟨x.b, 3, none⟩ = false := A7.out.fz 3 (by omega)
            have z4 : v7.frozen? ⟨x.b, 4, none⟩ = false := A7.out.fz 4 (by omega)
            have z5 : v7.frozen? ⟨x.b, 5, none⟩ = false := A7.out.fz 5 (by omega)
            have z6 : v7.frozen? ⟨x.b, 6, none⟩ = false := A7.out.fz 6 (by omega)
            have h3 : v7.cell? ⟨x.b, 3, none⟩ = some x.ov := h3
            have h4 : v7.cell? ⟨x.b, 4, none⟩ = some x.pv := h4
            clear S7 hb7 fr7
            go_simp
            refine hK.out _ _ (trivial) (fun hHeld => ?_)
            try simp only [Act.put, pa, pb, pc]
            refine wpAnyH_ready (rs := [13]) (by kernel_rfl) (by simp) ?_
            refine AllReadyH.cons (o := ⟨some 130, _, _, _, _, _⟩) rfl (fun K hK => ?_) AllReadyH.nil
            go_simp
            have gd := h5
            go_simp
            clear gd
            refine hK.out _ _ (trivial) (fun hHeld => ?_)
            try simp only [Act.put, pa, pb, pc]
            refine zpl [(14,131),(20,137),(21,138)] ?_
            iterate 3 (refine ztp (v := ?_) rfl (by kernel_rfl) (fun _ _ _ h => h) (by assumption) ?_ ?_; rotate_left; (·intro w hS; (try dsimp only at hS); go_simp; try with_reducible rfl); try simp only [Act.put, pa, pb, pc])
            refine zpe ?_
            refine wpAnyH_ready (rs := [22]) (by kernel_rfl) (by simp) ?_
            refine AllReadyH.cons (o := ⟨none, _, _, _, _, _⟩) rfl (fun K hK => ?_) AllReadyH.nil
            go_simp
            refine hK.out _ _ (trivial) (fun hHeld => ?_)
            try simp only [Act.put, pa, pb, pc]
            refine zpl [(23,139),(24,140)] ?_
            iterate 2 (refine ztp (v := ?_) rfl (by kernel_rfl) (fun _ _ _ h => h) (by assumption) ?_ ?_; rotate_left; (·intro w hS; (try dsimp only at hS); go_simp; try with_reducible rfl); try simp only [Act.put, pa, pb, pc])
            refine zpe ?_
            refine wpAnyH_ready (rs := [25]) (by kernel_rfl) (by simp) ?_
            refine AllReadyH.cons (o := ⟨none, _, _, _, _, _⟩) rfl (fun K hK => ?_) AllReadyH.nil
            go_simp
            refine hK.out _ _ (trivial) (fun hHeld => ?_)
            try simp only [Act.put, pa, pb, pc]
            refine zpl [(26,141),(27,142)] ?_
            iterate 2 (refine ztp (v := ?_) rfl (by kernel_rfl) (fun _ _ _ h => h) (by assumption) ?_ ?_; rotate_left; (·intro w hS; (try dsimp only at hS); go_simp; try with_reducible rfl); try simp only [Act.put, pa, pb, pc])
            refine zpe ?_
            refine wpAnyH_ready (rs := [28]) (by kernel_rfl) (by simp) ?_
            refine AllReadyH.cons (o := ⟨none, _, _, _, _, _⟩) rfl (fun K hK => ?_) AllReadyH.nil
            go_simp
            refine hK.out _ _ (trivial) (fun hHeld => ?_)
            try simp only [Act.put, pa, pb, pc]
            refine zpl [(29,143),(30,144)] ?_
            iterate 2 (refine ztp (v := ?_) rfl (by kernel_rfl) (fun _ _ _ h => h) (by assumption) ?_ ?_; rotate_left; (·intro w hS; (try dsimp only at hS); go_simp; try with_reducible rfl); try simp only [Act.put, pa, pb, pc])
            refine zpe ?_
            refine wpAnyH_ready (rs := [31]) (by kernel_rfl) (by simp) ?_
            refine AllReadyH.cons (o := ⟨none, _, _, _, _, _⟩) rfl (fun K hK => ?_) AllReadyH.nil
            go_simp
            refine hK.out _ _ (trivial) (fun hHeld => ?_)
            try simp only [Act.put, pa, pb, pc]
            refine wpAnyH_done (by kernel_rfl) ?_ _
            go_wp2_with fail
            go_ret
            first
             | exact ⟨by first | rfl | simp, PX.out⟩
             | exact ⟨by first | rfl | simp, by have q := PX.out; rw [hkl] at q; exact q⟩
           ·skip
            go_simp
            have gd := d5
            go_simp
            clear gd
            refine hK.out _ _ (trivial) (fun hHeld => ?_)
            try simp only [Act.put, pa, pb, pc]
            refine zpl [(14,131)] ?_
            iterate 1 (refine ztp (v := ?_) rfl (by kernel_rfl) (fun _ _ _ h => h) (by assumption) ?_ ?_; rotate_left; (·intro w hS; (try dsimp only at hS); go_simp; try with_reducible rfl); try simp only [Act.put, pa, pb, pc])
            refine zpe ?_
            refine wpAnyH_ready (rs := [8]) (by kernel_rfl) (by simp) ?_
            refine AllReadyH.cons (o := ⟨some 125, _, _, _, _, _⟩) rfl (fun K hK => ?_) AllReadyH.nil
            go_simp
            go_at_call 80
            refine (KC.out _ C6.out.a.drew).mono ?_
            rintro e v7 ⟨vo, rfl, S7, hb7, fr7⟩
            have A7 := Lib.hid (C6.out.a.drew.below hb7)
            have PX := Lib.hid (HNC.out v7 vo S7 hb7 fr7)
            obtain ⟨V7, c7, rfl, _⟩ := S7.val
            have h5 : v7.cell? ⟨x.b, 5, none⟩ = some (.int .i64 c.ep) := A7.out.f5
            have h6 : v7.cell? ⟨x.b, 6, none⟩ = some (.int .i64 c.slot) := A7.out.f6
            have h3 := A7.out.hb.cell_some (i := 3) rfl
            have h4 := A7.out.hb.cell_some (i := 4) rfl
            have z3 : v7.frozen? ⟨x.b, 3, none⟩ = false := A7.out.fz 3 (by omega)
            have z4 : v7.frozen? ⟨x.b, 4, none⟩ = false := A7.out.fz 4 (by omega)
            have z5 : v7.frozen? ⟨x.b, 5, none⟩ = false := A7.out.fz 5 (by omega)
            have z6 : v7.frozen? ⟨x.b, 6, none⟩ = false := A7.out.fz 6 (by omega)
            have h3 : v7.cell? ⟨x.b, 3, none⟩ = some x.ov := h3
            have h4 : v7.cell? ⟨x.b, 4, none⟩ = some x.pv := h4
            clear S7 hb7 fr7
            go_simp
            refine hK.out _ _ (trivial) (fun hHeld => ?_)
            try simp only [Act.put, pa, pb, pc]
            refine zpl [(20,137),(21,138)] ?_
            iterate 2 (refine ztp (v := ?_) rfl (by kernel_rfl) (fun _ _ _ h => h) (by assumption) ?_ ?_; rotate_left; (·intro w hS; (try dsimp only at hS); go_simp; try with_reducible rfl); try simp only [Act.put, pa, pb, pc])
            refine zpe ?_
            refine wpAnyH_ready (rs := [22]) (by kernel_rfl) (by simp) ?_
            refine AllReadyH.cons (o := ⟨none, _, _, _, _, _⟩) rfl (fun K hK => ?_) AllReadyH.nil
            go_simp
            refine hK.out _ _ (trivial) (fun hHeld => ?_)
            try simp only [Act.put, pa, pb, pc]
            refine zpl [(23,139),(24,140)] ?_
            iterate 2 (refine ztp (v := ?_) rfl (by kernel_rfl) (fun _ _ _ h => h) (by assumption) ?_ ?_; rotate_left; (·intro w hS; (try dsimp only at hS); go_simp; try with_reducible rfl); try simp only [Act.put, pa, pb, pc])
            refine zpe ?_
            refine wpAnyH_ready (rs := [25]) (by kernel_rfl) (by simp) ?_
            refine AllReadyH.cons (o := ⟨none, _, _, _, _, _⟩) rfl (fun K hK => ?_) AllReadyH.nil
            go_simp
            refine hK.out _ _ (trivial) (fun hHeld => ?_)
            try simp only [Act.put, pa, pb, pc]
            refine zpl [(26,141),(27,142)] ?_
            iterate 2 (refine ztp (v := ?_) rfl (by kernel_rfl) (fun _ _ _ h => h) (by assumption) ?_ ?_; rotate_left; (·intro w hS; (try dsimp only at hS); go_simp; try with_reducible rfl); try simp only [Act.put, pa, pb, pc])
            refine zpe ?_
            refine wpAnyH_ready (rs := [28]) (by kernel_rfl) (by simp) ?_
            refine AllReadyH.cons (o := ⟨none, _, _, _, _, _⟩) rfl (fun K hK => ?_) AllReadyH.nil
            go_simp
            refine hK.out _ _ (trivial) (fun hHeld => ?_)
            try simp only [Act.put, pa, pb, pc]
            refine zpl [(29,143),(30,144)] ?_
            iterate 2 (refine ztp (v := ?_) rfl (by kernel_rfl) (fun _ _ _ h => h) (by assumption) ?_ ?_; rotate_left; (·intro w hS; (try dsimp only at hS); go_simp; try with_reducible rfl); try simp only [Act.put, pa, pb, pc])
            refine zpe ?_
            refine wpAnyH_ready (rs := [31]) (by kernel_rfl) (by simp) ?_
            refine AllReadyH.cons (o := ⟨none, _, _, _, _, _⟩) rfl (fun K hK => ?_) AllReadyH.nil
            go_simp
            refine hK.out _ _ (trivial) (fun hHeld => ?_)
            try simp only [Act.put, pa, pb, pc]
            refine wpAnyH_done (by kernel_rfl) ?_ _
            go_wp2_with fail
            go_ret
            first
             | exact ⟨by first | rfl | simp, PX.out⟩
             | exact ⟨by first | rfl | simp, by have q := PX.out; rw [hkl] at q; exact q⟩
          ·skip
           go_simp
           have gd := d5
           go_simp
           clear gd
           refine hK.out _ _ (trivial) (fun hHeld => ?_)
           try simp only [Act.put, pa, pb, pc]
           refine zpl [(14,131)] ?_
           iterate 1 (refine ztp (v := ?_) rfl (by kernel_rfl) (fun _ _ _ h => h) (by assumption) ?_ ?_; rotate_left; (·intro w hS; (try dsimp only at hS); go_simp; try with_reducible rfl); try simp only [Act.put, pa, pb, pc])
           refine zpe ?_
           refine wpAnyH_ready (rs := [7]) (by kernel_rfl) (by simp) ?_
           refine AllReadyH.cons (o := ⟨some 124, _, _, _, _, _⟩) rfl (fun K hK => ?_) AllReadyH.nil
           go_simp
           have gd := d2
           go_simp
           clear gd
           refine hK.out _ _ (trivial) (fun hHeld => ?_)
           try simp only [Act.put, pa, pb, pc]
           refine wpAnyH_ready (rs := [8]) (by kernel_rfl) (by simp) ?_
           refine AllReadyH.cons (o := ⟨some 125, _, _, _, _, _⟩) rfl (fun K hK => ?_) AllReadyH.nil
           go_simp
           go_at_call 80
           refine (KC.out _ C6.out.a.drew).mono ?_
           rintro e v7 ⟨vo, rfl, S7, hb7, fr7⟩
           have A7 := Lib.hid (C6.out.a.drew.below hb7)
           have PX := Lib.hid (HNC.out v7 vo S7 hb7 fr7)
           obtain ⟨V7, c7, rfl, _⟩ := S7.val
           have h5 : v7.cell? ⟨x.b, 5, none⟩ = some (.int .i64 c.ep) := A7.out.f5
           have h6 : v7.cell? ⟨x.b, 6, none⟩ = some (.int .i64 c.slot) := A7.out.f6
           have h3 := A7.out.hb.cell_some (i := 3) rfl
           have h4 := A7.out.hb.cell_some (i := 4) rfl
           have z3 : v7.frozen? ⟨x.b, 3, none⟩ = false := A7.out.fz 3 (by omega)
           have z4 : v7.frozen? ⟨x.b, 4, none⟩ = false := A7.out.fz 4 (by omega)
           have z5 : v7.frozen? ⟨x.b, 5, none⟩ = false := A7.out.fz 5 (by omega)
           have z6 : v7.frozen? ⟨x.b, 6, none⟩ = false := A7.out.fz 6 (by omega)
           have h3 : v7.cell? ⟨x.b, 3, none⟩ = some x.ov := h3
           have h4 : v7.cell? ⟨x.b, 4, none⟩ = some x.pv := h4
           clear S7 hb7 fr7
           go_simp
           refine hK.out _ _ (trivial) (fun hHeld => ?_)
           try simp only [Act.put, pa, pb, pc]
           refine zpl [(20,137),(21,138)] ?_
           iterate 2 (refine ztp (v := ?_) rfl (by kernel_rfl) (fun _ _ _ h => h) (by assumption) ?_ ?_; rotate_left; (·intro w hS; (try dsimp only at hS); go_simp; try with_reducible rfl); try simp only [Act.put, pa, pb, pc])
           refine zpe ?_
           refine wpAnyH_ready (rs := [22]) (by kernel_rfl) (by simp) ?_
           refine AllReadyH.cons (o := ⟨none, _, _, _, _, _⟩) rfl (fun K hK => ?_) AllReadyH.nil
           go_simp
           refine hK.out _ _ (trivial) (fun hHeld => ?_)
           try simp only [Act.put, pa, pb, pc]
           refine zpl [(23,139),(24,140)] ?_
           iterate 2 (refine ztp (v := ?_) rfl (by kernel_rfl) (fun _ _ _ h => h) (by assumption) ?_ ?_; rotate_left; (·intro w hS; (try dsimp only at hS); go_simp; try with_reducible rfl); try simp only [Act.put, pa, pb, pc])
           refine zpe ?_
           refine wpAnyH_ready (rs := [25]) (by kernel_rfl) (by simp) ?_
           refine AllReadyH.cons (o := ⟨none, _, _, _, _, _⟩) rfl (fun K hK => ?_) AllReadyH.nil
           go_simp
           refine hK.out _ _ (trivial) (fun hHeld => ?_)
           try simp only [Act.put, pa, pb, pc]
           refine zpl [(26,141),(27,142)] ?_
           iterate 2 (refine ztp (v := ?_) rfl (by kernel_rfl) (fun _ _ _ h => h) (by assumption) ?_ ?_; rotate_left; (·intro w hS; (try dsimp only at hS); go_simp; try with_reducible rfl); try simp only [Act.put, pa, pb, pc])
           refine zpe ?_
           refine wpAnyH_ready (rs := [28]) (by kernel_rfl) (by simp) ?_
           refine AllReadyH.cons (o := ⟨none, _, _, _, _, _⟩) rfl (fun K hK => ?_) AllReadyH.nil
           go_simp
           refine hK.out _ _ (trivial) (fun hHeld => ?_)
           try simp only [Act.put, pa, pb, pc]
           refine zpl [(29,143),(30,144)] ?_
           iterate 2 (refine ztp (v := ?_) rfl (by kernel_rfl) (fun _ _ _ h => h) (by assumption) ?_ ?_; rotate_left; (·intro w hS; (try dsimp only at hS); go_simp; try with_reducible rfl); try simp only [Act.put, pa, pb, pc])
           refine zpe ?_
           refine wpAnyH_ready (rs := [31]) (by kernel_rfl) (by simp) ?_
           refine AllReadyH.cons (o := ⟨none, _, _, _, _, _⟩) rfl (fun K hK => ?_) AllReadyH.nil
           go_simp
           refine hK.out _ _ (trivial) (fun hHeld => ?_)
           try simp only [Act.put, pa, pb, pc]
           refine wpAnyH_done (by kernel_rfl) ?_ _
           go_wp2_with fail
           go_ret
           first
            | exact ⟨by first | rfl | simp, PX.out⟩
            | exact ⟨by first | rfl | simp, by have q := PX.out; rw [hkl] at q; exact q⟩
      ·rw [if_pos hle] at HR4
       subst HR4
       have hq : (le != 0) = true := by rw [bne_iff_ne]; exact hle
       have hq2 : (le == 0) = false := by rw [beq_eq_false_iff_ne]; exact hle
       clear hlf
       unfold sp at KL
       go_wp2_with fail
       refine KL.out.mono ?_
       rintro e v3 ⟨rfl, A3, o3⟩
       have C3 := Lib.hid (show CW x n w v3 { x with tv := .slice (some ⟨gz, 0, none⟩) (jz + 1) tc } { c with table := c.table.take (jz + 1), m := (takeN c.m i).1, d := ld } from ⟨A3, HC.out.1.o.trans (o3.mono (fun g hg _ => L_fp x g hg)), hfp⟩)
       have q7 := C3.out.a.hb.cell_some (i := 7) rfl
       have z7 := C3.out.a.fz 7 (by omega)
       have q7 : v3.cell? ⟨x.b, 7, none⟩ = some (.bool c.broken) := q7
       have z7 : v3.frozen? ⟨x.b, 7, none⟩ = false := z7
       have R7 := Lib.hid (C3.out.brk)
       clear A3 o3
       go_wp2_with fail
       go_ret
       exact ⟨by first | rfl | simp, R7.out.post⟩
end Go.Proofs.YtbelcgjbhpjnpaaGreat.Sh
