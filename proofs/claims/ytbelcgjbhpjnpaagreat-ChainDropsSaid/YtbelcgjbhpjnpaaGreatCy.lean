/- the document's chains, on the document's pool. -/
import Derived.Test.YtbelcgjbhpjnpaaGreatCx
import Derived.Test.YtbelcgjbhpjnpaaGreatXd
import Derived.Test.YtbelcgjbhpjnpaaGreatDr
set_option linter.all false
set_option linter.unusedVariables false
set_option linter.unusedSimpArgs false
namespace Go.Proofs.YtbelcgjbhpjnpaaGreat.Sh
open Go.RowKit Pk Dk Pg
attribute [local go_sem ↓] Go.wp_at_zero Go.wp_at_succ exec_app
/-- the document's pool, in whatever state -/
def RH (w : World) (xq rs n K : Nat) : Prop := ∃ q, RX w xq rs q ∧ Hq q n K ∧ F32 q.l
section
variable {w w' : World} {xq rs n K : Nat}
theorem RH.below (h : RH w xq rs n K) (hb : Below w.heap.size w w') : RH w' xq rs n K := by
 obtain ⟨q, x, H, f⟩ := h
 exact ⟨q, x.below hb, H, f⟩
theorem RH.more (h : RH w xq rs n K) {K' : Nat} (hk : K ≤ K') : RH w xq rs n K' := by
 obtain ⟨q, x, H, f⟩ := h
 exact ⟨q, x, H.more hk, f⟩
theorem RH.lt (h : RH w xq rs n K) : xq < w.heap.size ∧ rs < w.heap.size := by
 obtain ⟨q, ⟨fv, nv, ov, R⟩, _⟩ := h
 exact ⟨R.hp.lt, R.hs.hb.lt⟩
theorem RPAt.blks {fv nv ov : Value} {q : QS} (h : RPAt w xq rs fv nv ov q) : ∀ g ∈ xq :: rs :: (ownB fv ++ (ownB nv ++ ownB ov)), ∃ t cs, (t = 86 ∨ t = 88 ∨ t = 47 ∨ t = 91) ∧ Blk w g t cs := by
 intro g hg
 simp only [List.mem_cons, List.mem_append] at hg
 rcases hg with rfl | rfl | hg | hg
 ·exact ⟨_, _, .inl rfl, h.hp⟩
 ·exact ⟨_, _, .inr (.inr (.inl rfl)), h.hs.hb⟩
 ·obtain ⟨cs, B⟩ := frame_blk h.hf g hg
  exact ⟨_, cs, .inr (.inl rfl), B⟩
 ·obtain ⟨t, cs, ht, B⟩ := h.hs.blk' g (by simp; right; exact hg)
  rcases ht with rfl | rfl
  ·exact ⟨_, cs, .inr (.inr (.inl rfl)), B⟩
  ·exact ⟨_, cs, .inr (.inr (.inr rfl)), B⟩
/-- a list of numbers is written -/
theorem RH.far (h : RH w xq rs n K) {v : Value} {m : Nat} {l : List Value} (S : Slc w 3 1 v m l) (o : Only (ownB v) w w') : RH w' xq rs n K := by
 obtain ⟨q, ⟨fv, nv, ov, R⟩, H, f⟩ := h
 refine ⟨q, ⟨fv, nv, ov, R.only o (fun g hg hm => ?_)⟩, H, f⟩
 obtain ⟨t, cs, ht, B⟩ := R.blks g hg
 rcases ht with rfl | rfl | rfl | rfl <;> exact slc_ne S B (by decide) hm
theorem RH.p0 (h : RH w xq rs n K) : w.cell? ⟨xq, 0, none⟩ = some (.pointer (some ⟨rs, 0, none⟩)) := by
 obtain ⟨q, ⟨fv, nv, ov, R⟩, _⟩ := h
 exact R.p0
theorem rget_h (h : RH w xq rs n K) (hK : K ≤ 999999999999) (p : Int) :
  Calls Tryz.prog 115 #[rp xq, .int .i64 p] w fun e w' => ∃ s er, e = .returned (.tuple #[.string s, .int .i64 er]) ∧ (er = 0 → s.size = 232) ∧ RH w' xq rs n (K + 1) ∧ Only [xq, rs] w w' := by
 obtain ⟨q, x, H, f⟩ := h
 refine (xget x H hK p).mono ?_
 rintro e w1 ⟨rfl, x1, o1⟩
 obtain ⟨f1, f2⟩ := get_32 H f p
 exact ⟨_, _, rfl, f2, ⟨_, x1, H.get p, f1⟩, o1⟩
theorem rdrop_h (h : RH w xq rs n K) (p : Int) :
  Calls Tryz.prog 116 #[rp xq, .int .i64 p] w fun e w' => ∃ er, e = .returned (.int .i64 er) ∧ RH w' xq rs n K ∧ Only [xq, rs] w w' := by
 obtain ⟨q, x, H, f⟩ := h
 refine (xdrop x H p).mono ?_
 rintro e w1 ⟨rfl, x1, o1⟩
 exact ⟨_, rfl, ⟨_, x1, H.drop p, drop_32 f p⟩, o1⟩
theorem rsnew_h (h : RH w xq rs n K) (hK : K ≤ 999999999999) (s : ByteArray) (hs : s.size ≤ 1000000) :
  Calls Tryz.prog 67 #[rp rs, .string s] w fun e w' => ∃ (l : Nat) (er : Int), l ≤ 511 ∧ e = .returned (.tuple #[.int .i64 l, .int .i64 er]) ∧ RH w' xq rs n (K + 1) ∧ Only [xq, rs] w w' := by
 obtain ⟨q, x, H, f⟩ := h
 refine (xsnew x H s hs).mono ?_
 rintro e w1 ⟨rfl, x1, o1⟩
 obtain ⟨b1, b2⟩ := newF_bd q.a s.data.toList
 obtain ⟨l, hl⟩ := Int.eq_ofNat_of_zero_le b1
 exact ⟨l, _, by omega, by rw [hl], ⟨_, x1, H.new _, f⟩, o1⟩
end
set_option maxRecDepth 100000 in
set_option maxHeartbeats 1000000 in
theorem rtwo16_any (n : Nat) (h : n ≤ 60000) (w : World) :
  Calls Tryz.prog 178 #[.int .i64 (n : Nat)] w fun e w' => e = .returned (.string ⟨(twoL n).toArray⟩) ∧ Below w.heap.size w w' := by
 have O0 := Lib.hid (belowAlloc (Below.refl w.heap.size w) (.cells #[.int .u8 ((n : Int) / 256), .int .u8 ((n : Int) % 256)] 5))
 have B0 := Blk.new w 5 #[.int .u8 ((n : Int) / 256), .int .u8 ((n : Int) % 256)]
 have e1 : IntKind.u8.wrap ((n : Int) / 256) = (n : Int) / 256 := IntWalk.u8_in _ (by omega)
 have hb : bvs (twoL n) = [.int .u8 ((n : Int) / 256), .int .u8 ((n : Int) % 256)] := by
  unfold twoL bvs bv
  simp only [List.map_cons, List.map_nil, UInt8.toNat_ofNat']
  rw [show ((n / 256 % 2 ^ 8 : Nat) : Int) = (n : Int) / 256 by omega, show ((n % 2 ^ 8 : Nat) : Int) = (n : Int) % 256 by omega]
 have HR := Lib.hid (run_string_of (P := Tryz.prog) _ 141 9 5 Tryz.underlying141 Tryz.underlying5 Tryz.underlying9 ⟨w.heap.size, 0, none⟩ 2 2 (twoL n) rfl (cells_at (l := bvs (twoL n)) (by rw [hb]; exact B0) 0 _ (by simp)))
 clear B0 hb
 go_enter Tryz.func178, Tryz.ntmps178
 go_wp2_with fail
 rw [HR.out]
 go_wp2_with fail
 go_ret
 exact ⟨by first | rfl | simp, O0.out⟩
/-- what Walk gives -/
def RW (w w' : World) (xq rs n K : Nat) (e : Ending) : Prop := ∃ A i c l s er, e = .returned (.tuple #[.slice A i c, .string s, .int .i64 er]) ∧ Slc w' 3 1 (.slice A i c) i (nvs' l) ∧ l.length = i ∧ i ≤ 5 ∧ RH w' xq rs n K ∧ Only [xq, rs] w w' ∧ ∀ g ∈ ownB (.slice A i c), w.heap.size ≤ g
theorem RW.mk {w w' : World} {xq rs n K K' : Nat} {e : Ending} {A : Option Addr} {i c : Nat} {l : List Int} {s : ByteArray} {er : Int} (he : e = .returned (.tuple #[.slice A i c, .string s, .int .i64 er])) (S : Slc w' 3 1 (.slice A i c) i (nvs' l)) (hl : l.length = i) (hi : i ≤ 5) (hK : K' ≤ K) (h : RH w' xq rs n K') (o : Only [xq, rs] w w') (f : ∀ g ∈ ownB (.slice A i c), w.heap.size ≤ g) : RW w w' xq rs n K e := ⟨A, i, c, l, s, er, he, S, hl, hi, h.more hK, o, f⟩
set_option maxRecDepth 100000 in
set_option maxHeartbeats 4000000 in
theorem rwalk_any {w : World} {xq rs n K : Nat} (h : RH w xq rs n K) (hK : K + 5 ≤ 999999999999) (p : Int) :
  Calls Tryz.prog 135 #[rp xq, .int .i64 p] w fun e w' => RW w w' xq rs n (K + 5) e := by
 have KG := Lib.hid (fun (W : World) (j : Nat) (hj : j ≤ 5) (hW : RH W xq rs n (K + j)) (q : Int) => rget_h hW (by omega) q)
 have HLT := Lib.hid h.lt
 have HQ := Lib.hid h
 clear h
 unfold rp at *
 go_enter Tryz.func135, Tryz.ntmps135
 go_wp2_with fail
 go_loopw [7, 8, 9] (fun lv bv av wr => ∃ (i : Nat) (l : List Int) (s : ByteArray) (at_ : Int), i ≤ 5 ∧ l.length = i ∧ av = .int .i64 at_ ∧ bv = .string s ∧ s.size ≤ 1024 ∧ Slc wr 3 1 lv i (nvs' l) ∧ Hid (RH wr xq rs n (K + i) ∧ Only [xq, rs] w wr ∧ ∀ g ∈ ownB lv, w.heap.size ≤ g)) (fun lv _ _ _ => 5 - Rt.lenV lv)
 case atStart => exact ⟨0, [], ⟨#[]⟩, p, by omega, rfl, rfl, rfl, by show 0 ≤ 1024; omega, Slc.nil _ _ _, Lib.hid ⟨HQ.out, Only.refl _ _, by simp [ownB]⟩⟩
 case round =>
  obtain ⟨i, l, s, at_, hi, hl, rfl, rfl, hs, S1, HA⟩ := hrel
  obtain ⟨VA, vc, rfl⟩ := slc_val S1
  have HL := Lib.hid hl
  clear hl
  by_cases h5 : i < 5
  ·have h5I : (i : Int) < 5 := by omega
   have K1 := Lib.hid (KG.out wr i hi HA.out.1 at_)
   go_wp2_with fail
   refine K1.out.mono ?_
   rintro e w2 ⟨s2, er, rfl, hz, R2, o2⟩
   have H2 := Lib.hid (show RH w2 xq rs n (K + (i + 1)) ∧ Only [xq, rs] w w2 ∧ Slc w2 3 1 (.slice VA i vc) i (nvs' l) from
    ⟨R2, HA.out.2.1.trans o2, S1.only o2 (fun g hg hm => by
     have h1 := HA.out.2.2 g hg
     have h2 := HLT.out
     simp only [List.mem_cons, List.not_mem_nil, or_false] at hm
     rcases hm with rfl | rfl <;> omega)⟩)
   clear R2 o2 S1
   by_cases he : er = 0
   ·subst he
    have hsz := hz rfl
    clear hz
    have b0 := s2[0].toNat_lt
    have b1 := s2[1].toNat_lt
    have b2 := s2[2].toNat_lt
    have b3 := s2[3].toNat_lt
    have u0 : IntKind.i64.wrap (s2[0].toNat : Int) = (s2[0].toNat : Int) := IntWalk.i64_in _ (by omega)
    have u1 : IntKind.i64.wrap (s2[1].toNat : Int) = (s2[1].toNat : Int) := IntWalk.i64_in _ (by omega)
    have u2 : IntKind.i64.wrap (s2[2].toNat : Int) = (s2[2].toNat : Int) := IntWalk.i64_in _ (by omega)
    have u3 : IntKind.i64.wrap (s2[3].toNat : Int) = (s2[3].toNat : Int) := IntWalk.i64_in _ (by omega)
    have u4 : IntKind.i64.wrap ((s2[0].toNat : Int) * 256) = (s2[0].toNat : Int) * 256 := IntWalk.i64_in _ (by omega)
    have u5 : IntKind.i64.wrap ((s2[2].toNat : Int) * 256) = (s2[2].toNat : Int) * 256 := IntWalk.i64_in _ (by omega)
    obtain ⟨m2, hm2⟩ : ∃ m2 : Nat, s2[2].toNat * 256 + s2[3].toNat = m2 := ⟨_, rfl⟩
    obtain ⟨m0, hm0⟩ : ∃ m0 : Nat, s2[0].toNat * 256 + s2[1].toNat = m0 := ⟨_, rfl⟩
    have u6 : IntKind.i64.wrap ((s2[0].toNat : Int) * (256 : Int) + (s2[1].toNat : Int)) = (m0 : Int) := by rw [← hm0]; rw [IntWalk.i64_in _ (by omega)]; omega
    have u7 : IntKind.i64.wrap ((s2[2].toNat : Int) * (256 : Int) + (s2[3].toNat : Int)) = (m2 : Int) := by rw [← hm2]; rw [IntWalk.i64_in _ (by omega)]; omega
    have m0l : m0 ≤ 65535 := by omega
    have m2l : m2 ≤ 65535 := by omega
    have u8 : IntKind.i64.wrap ((m0 : Int) - 1) = (m0 : Int) - 1 := IntWalk.i64_in _ (by omega)
    have u9 : IntKind.i64.wrap (4 + (m2 : Int)) = 4 + (m2 : Int) := IntWalk.i64_in _ (by omega)
    have u10 : (4 + (m2 : Int)).toNat = 4 + m2 := by omega
    have u11 : IntKind.i64.wrap ((s.size : Int) + (m2 : Int)) = (s.size : Int) + (m2 : Int) := IntWalk.i64_in _ (by omega)
    clear hm0 hm2
    have hq0 : ((0 : Int) == 3) = false := by decide
    have HD := Lib.hid (fun k => (show RH (w2.drewN k) xq rs n (K + (i + 1)) ∧ Only [xq, rs] w (w2.drewN k) from ⟨H2.out.1.below (Below_drewN (Below.refl _ _) k), H2.out.2.1.drewN k⟩))
    by_cases h228 : 228 < m2
    ·have h228I : (228 : Int) < (m2 : Int) := by omega
     go_wp2_with fail
     go_quiet (fail)
     go_wp2_with fail
     go_ret3
     exact RW.mk (A := none) (i := 0) (c := 0) (l := []) (by first | rfl | simp) (Slc.nil _ _ _) rfl (by omega) (by omega) (HD.out nq).1 (HD.out nq).2 (by simp [ownB])
    ·have h228I : ¬ (228 : Int) < (m2 : Int) := by omega
     by_cases h1024 : 1024 < s.size + m2
     ·have h1024I : (1024 : Int) < (s.size : Int) + (m2 : Int) := by omega
      go_wp2_with fail
      go_quiet (fail)
      go_wp2_with fail
      go_ret3
      exact RW.mk (A := none) (i := 0) (c := 0) (l := []) (by first | rfl | simp) (Slc.nil _ _ _) rfl (by omega) (by omega) (HD.out nq).1 (HD.out nq).2 (by simp [ownB])
     ·have h1024I : ¬ (1024 : Int) < (s.size : Int) + (m2 : Int) := by omega
      go_wp2_with fail
      go_quiet (fail)
      have HE := Lib.hid (show RH (w2.drewN nq) xq rs n (K + (i + 1)) ∧ Only [xq, rs] w (w2.drewN nq) ∧ Slc (w2.drewN nq) 3 1 (.slice VA i vc) i (nvs' l) from ⟨(HD.out nq).1, (HD.out nq).2, H2.out.2.2.drewN nq⟩)
      clear HD
      generalize w2.drewN nq = w3 at *
      obtain ⟨v', w4, ea, S4, ow, fr⟩ := append_one (P := Tryz.prog) HE.out.2.2 52 52 (.int .i64 0) 8 Tryz.underlying52 info_int2 rfl (.int .i64 at_) rfl (by unfold maxLen; omega) (by omega)
      have H4 := Lib.hid (show RH w4 xq rs n (K + (i + 1)) ∧ Only [xq, rs] w w4 ∧ Slc w4 3 1 v' (i + 1) (nvs' (l ++ [at_])) ∧ ∀ g ∈ ownB v', w.heap.size ≤ g from
       ⟨HE.out.1.far HE.out.2.2 ow, HE.out.2.1.trans_of ow (fun g hg hlt => by have := HA.out.2.2 g hg; omega), by rw [nvs'_append]; exact S4, fun g hg => (fr g hg).elim (HA.out.2.2 g) (fun h => by have := HE.out.2.1.size; omega)⟩)
      obtain ⟨V4, c4, rfl⟩ := slc_val S4
      have EA := Lib.hid ea
      clear ea S4 ow fr
      have z1 : ¬ 9223372036854775807 < s.size + (s2.extract 4 (4 + m2)).size := by rw [ByteArray.size_extract]; omega
      have hsx : (s ++ s2.extract 4 (4 + m2)).size ≤ 1024 := by rw [ByteArray.size_append, ByteArray.size_extract]; omega
      have z2 : 4 + m2 ≤ 232 := by omega
      go_wp2_with fail
      rw [EA.out]
      by_cases hm : m0 = 0
      ·have hmI : (m0 : Int) - 1 < 0 := by omega
       go_wp2_with fail
       go_quiet (fail)
       go_wp2_with fail
       go_ret3
       exact RW.mk (A := V4) (i := i + 1) (c := c4) (l := l ++ [at_]) (by first | rfl | simp) (H4.out.2.2.1.drewN nq) (by rw [List.length_append, HL.out]; rfl) (by omega) (by omega) (H4.out.1.below (Below_drewN (Below.refl _ _) nq)) (H4.out.2.1.drewN nq) H4.out.2.2.2
      ·have hmI : ¬ (m0 : Int) - 1 < 0 := by omega
       go_wp2_with fail
       go_quiet (fail)
       have H5 := Lib.hid (show RH (w4.drewN nq) xq rs n (K + (i + 1)) ∧ Only [xq, rs] w (w4.drewN nq) ∧ ∀ g ∈ ownB (.slice V4 (i + 1) c4), w.heap.size ≤ g from ⟨H4.out.1.below (Below_drewN (Below.refl _ _) nq), H4.out.2.1.drewN nq, H4.out.2.2.2⟩)
       go_wp2_with fail
       go_roundw
       case rel => exact ⟨i + 1, l ++ [at_], s ++ s2.extract 4 (4 + m2), (m0 : Int) - 1, by omega, by rw [List.length_append, HL.out]; rfl, rfl, rfl, hsx, H4.out.2.2.1.drewN nq, H5⟩
       case measure => simp [Rt.lenV]; omega
   ·have hq : (er != 0) = true := by rw [bne_iff_ne]; exact he
    have hq2 : (er == 0) = false := by rw [beq_eq_false_iff_ne]; exact he
    clear hz
    by_cases e3 : er = 3
    ·subst e3
     by_cases h0 : 0 < i
     ·have h0I : (0 : Int) < (i : Int) := by omega
      go_wp2_with fail
      go_ret3
      exact RW.mk (A := none) (i := 0) (c := 0) (l := []) (by first | rfl | simp) (Slc.nil _ _ _) rfl (by omega) (by omega) H2.out.1 H2.out.2.1 (by simp [ownB])
     ·have h0I : ¬ (0 : Int) < (i : Int) := by omega
      go_wp2_with fail
      go_ret3
      exact RW.mk (A := none) (i := 0) (c := 0) (l := []) (by first | rfl | simp) (Slc.nil _ _ _) rfl (by omega) (by omega) H2.out.1 H2.out.2.1 (by simp [ownB])
    ·have hq3 : (er == 3) = false := by rw [beq_eq_false_iff_ne]; exact e3
     go_wp2_with fail
     go_ret3
     exact RW.mk (A := none) (i := 0) (c := 0) (l := []) (by first | rfl | simp) (Slc.nil _ _ _) rfl (by omega) (by omega) H2.out.1 H2.out.2.1 (by simp [ownB])
  ·have h5I : ¬ (i : Int) < 5 := by omega
   go_wp2_with fail
   go_ret3
   exact RW.mk (A := none) (i := 0) (c := 0) (l := []) (by first | rfl | simp) (Slc.nil _ _ _) rfl (by omega) (by omega) HA.out.1 HA.out.2.1 (by simp [ownB])
end Go.Proofs.YtbelcgjbhpjnpaaGreat.Sh
