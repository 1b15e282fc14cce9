/- the document's Put of a chain, on the document's pool. -/
import Derived.Test.YtbelcgjbhpjnpaaGreatCy
set_option linter.all false
set_option linter.unusedVariables false
set_option linter.unusedSimpArgs false
namespace Go.Proofs.YtbelcgjbhpjnpaaGreat.Sh
open Go.RowKit Pk Dk Pg
attribute [local go_sem ↓] Go.wp_at_zero Go.wp_at_succ exec_app
/-- what Put gives -/
def RV (w w' : World) (xq rs n K : Nat) (e : Ending) : Prop := ∃ l er, e = .returned (.tuple #[.int .i64 l, .int .i64 er]) ∧ RH w' xq rs n K ∧ Only [xq, rs] w w'
theorem RV.mk {w w' : World} {xq rs n K K' : Nat} {e : Ending} {l er : Int} (he : e = .returned (.tuple #[.int .i64 l, .int .i64 er])) (hK : K' ≤ K) (h : RH w' xq rs n K') (o : Only [xq, rs] w w') : RV w w' xq rs n K e := ⟨l, er, he, h.more hK, o⟩
/-- a list of the call's own beside the document's pool -/
def RL (w w' : World) (xq rs n K : Nat) (A : Option Addr) (q c : Nat) (l : List Int) : Prop := RH w' xq rs n K ∧ Only [xq, rs] w w' ∧ Slc w' 3 1 (.slice A q c) q (nvs' l) ∧ (∀ g ∈ ownB (.slice A q c), w.heap.size ≤ g) ∧ xq < w.heap.size ∧ rs < w.heap.size
section
variable {w w' W : World} {xq rs n K : Nat} {A : Option Addr} {q c : Nat} {l : List Int}
theorem RL.below (h : RL w w' xq rs n K A q c l) (hb : Below w'.heap.size w' W) : RL w W xq rs n K A q c l := ⟨h.1.below hb, h.2.1.trans (.of_below hb), h.2.2.1.below hb, h.2.2.2⟩
theorem RL.step {K' : Nat} (h : RL w w' xq rs n K A q c l) (r : RH W xq rs n K') (o : Only [xq, rs] w' W) : RL w W xq rs n K' A q c l := ⟨r, h.2.1.trans o, h.2.2.1.only o (fun g hg hm => by
 have h1 := h.2.2.2.1 g hg
 have h2 := h.2.2.2.2
 simp only [List.mem_cons, List.not_mem_nil, or_false] at hm
 rcases hm with rfl | rfl <;> omega), h.2.2.2⟩
end
set_option maxRecDepth 100000 in
set_option maxHeartbeats 8000000 in
theorem rput16_any {w : World} {xq rs n Kz : Nat} (h : RH w xq rs n Kz) (hK : Kz + 6 ≤ 999999999999) (v : ByteArray) (hv : v.size ≤ 1024) :
  Calls Tryz.prog 133 #[rp xq, .string v] w fun e w' => RV w w' xq rs n (Kz + 6) e := by
 have hn1 : 1 ≤ cneedF v.size ∧ cneedF v.size ≤ 5 := by unfold cneedF; omega
 have hn2 : 228 * (cneedF v.size - 1) ≤ v.size := by unfold cneedF; omega
 have KN := Lib.hid (rneed_any (v.size : Nat) (by omega) (by omega))
 obtain ⟨m, hm⟩ := Int.eq_ofNat_of_zero_le (show 0 ≤ cneedF v.size by omega)
 rw [hm] at hn1 hn2 KN
 have hm1 : IntKind.i64.wrap ((m : Int) - 1) = (m : Int) - 1 := IntWalk.i64_in _ (by omega)
 have hvI : ¬ (1024 : Int) < (v.size : Int) := by omega
 have HLT := Lib.hid h.lt
 have HQ := Lib.hid h
 have KW := Lib.hid (fun (W : World) (j : Nat) (hj : j ≤ 5) (hW : RH W xq rs n (Kz + j)) (s : ByteArray) (hs : s.size ≤ 1000000) => rsnew_h hW (by omega) s hs)
 have KD := Lib.hid (fun (W : World) (j : Nat) (hW : RH W xq rs n (Kz + j)) (p : Int) => rdrop_h hW p)
 have KT := Lib.hid rtwo16_any
 clear h hm
 unfold rp at *
 go_enter Tryz.func133, Tryz.ntmps133
 go_wp2_with fail
 refine (KN.out _).mono ?_
 rintro e w1 ⟨rfl, rfl⟩
 go_wp2_with fail
 go_loopw [6, 7, 8] (fun mv nv iv wr => ∃ (j nx mq : Nat) (made : List Int) (VA : Option Addr) (vc : Nat), mq + j = m ∧ iv = .int .i64 ((j : Int) - 1) ∧ nv = .int .i64 (nx : Nat) ∧ nx ≤ 512 ∧ mv = .slice VA mq vc ∧ Hid (made.length = mq) ∧ Hid (RL w wr xq rs n (Kz + mq) VA mq vc made)) (fun _ _ iv _ => (intOf iv + 1).toNat)
 case atStart => exact ⟨m, 0, 0, [], none, 0, by omega, rfl, rfl, by omega, rfl, Lib.hid rfl, Lib.hid ⟨HQ.out, Only.refl _ _, Slc.nil _ _ _, by simp [ownB], HLT.out⟩⟩
 case round =>
  obtain ⟨j, nx, mq, made, VA, vc, hmq, rfl, rfl, hnx, rfl, HML, HA⟩ := hrel
  by_cases h0 : 0 < j
  ·obtain ⟨i, rfl⟩ : ∃ i, j = i + 1 := ⟨j - 1, by omega⟩
   have hz : ((i + 1 : Nat) : Int) - 1 = (i : Nat) := by omega
   rw [hz]
   have hi2 : 228 * i ≤ v.size := by omega
   have i0 : ¬ (i : Int) < 0 := by omega
   have e1 : IntKind.i64.wrap (228 * (i : Int)) = ((228 * i : Nat) : Int) := by rw [show 228 * (i : Int) = ((228 * i : Nat) : Int) by omega]; exact IntWalk.i64_in _ (by omega)
   have e2 : IntKind.i64.wrap ((i : Int) - 1) = (i : Int) - 1 := IntWalk.i64_in _ (by omega)
   obtain ⟨B, hB⟩ : ∃ B, v.extract (228 * i) v.size = B := ⟨_, rfl⟩
   have hBs : B.size = v.size - 228 * i := by rw [← hB, ByteArray.size_extract]; omega
   have HD := Lib.hid (HA.out.below (Below.refl wr.heap.size wr).drew)
   have hmq5 : mq ≤ 4 := by omega
   have HMQ := Lib.hid hmq
   generalize hr : 228 * i = r at *
   clear hr hn2 hmq
   by_cases hb : 228 < B.size
   ·have hbI : (228 : Int) < (B.size : Int) := by omega
    obtain ⟨C, hC⟩ : ∃ C, B.extract 0 228 = C := ⟨_, rfl⟩
    have hCs : C.size ≤ 228 := by rw [← hC, ByteArray.size_extract]; omega
    go_wp2_with fail
    have K1 := Lib.hid (KT.out nx (by omega))
    have K2 := Lib.hid (KT.out C.size (by omega))
    have t1 : (⟨(twoL nx).toArray⟩ : ByteArray).size = 2 := rfl
    have t2 : (⟨(twoL C.size).toArray⟩ : ByteArray).size = 2 := rfl
    generalize (⟨(twoL nx).toArray⟩ : ByteArray) = T1 at *
    generalize (⟨(twoL C.size).toArray⟩ : ByteArray) = T2 at *
    have z1 : ¬ 9223372036854775807 < T1.size + T2.size := by omega
    have z2 : ¬ 9223372036854775807 < T1.size + T2.size + C.size := by omega
    have K4 := Lib.hid (fun (W : World) (hW : RH W xq rs n (Kz + mq)) => KW.out W mq (by omega) hW (T1 ++ T2 ++ C) (by rw [ByteArray.size_append, ByteArray.size_append]; omega))
    clear t1 t2
    have p0 := HD.out.1.p0
    refine wp_region_held_drew (S := fun W' => W'.cell? ⟨xq, 0, none⟩ = some (.pointer (some ⟨rs, 0, none⟩))) (by kernel_rfl) (p0) (fun hHeld => ?_)
    refine zpl [(0,34),(1,35),(2,36),(3,37),(4,38),(6,40),(7,41),(10,44)] ?_
    iterate 8 (refine ztp (v := ?_) rfl (by kernel_rfl) (fun _ _ _ h => h) (by assumption) ?_ ?_; rotate_left; (·intro w hS; (try dsimp only at hS); go_simp; try with_reducible rfl); try simp only [Act.put, pa, pb, pc])
    refine zpe ?_
    refine wpAnyH_ready (rs := [5]) (by kernel_rfl) (by simp) ?_
    refine AllReadyH.cons (o := ⟨some 39, _, _, _, _, _⟩) rfl (fun K hK => ?_) AllReadyH.nil
    go_simp
    go_at_call 178
    refine (K1.out _).mono ?_
    rintro e w3 ⟨rfl, hb3⟩
    have H3 := Lib.hid (HD.out.below hb3)
    have p3 := H3.out.1.p0
    clear hb3
    go_simp
    refine hK.out _ _ (p3) (fun hHeld => ?_)
    try simp only [Act.put, pa, pb, pc]
    refine wpAnyH_ready (rs := [8]) (by kernel_rfl) (by simp) ?_
    refine AllReadyH.cons (o := ⟨some 42, _, _, _, _, _⟩) rfl (fun K hK => ?_) AllReadyH.nil
    go_simp
    go_at_call 178
    refine (K2.out _).mono ?_
    rintro e w4 ⟨rfl, hb4⟩
    have H4 := Lib.hid (H3.out.below hb4)
    have p4 := H4.out.1.p0
    clear hb4
    go_simp
    refine hK.out _ _ (p4) (fun hHeld => ?_)
    try simp only [Act.put, pa, pb, pc]
    refine zpl [(9,43),(11,45)] ?_
    iterate 2 (refine ztp (v := ?_) rfl (by kernel_rfl) (fun _ _ _ h => h) (by assumption) ?_ ?_; rotate_left; (·intro w hS; (try dsimp only at hS); go_simp; try with_reducible rfl); try simp only [Act.put, pa, pb, pc])
    refine zpe ?_
    refine wpAnyH_ready (rs := [12]) (by kernel_rfl) (by simp) ?_
    refine AllReadyH.cons (o := ⟨some 46, _, _, _, _, _⟩) rfl (fun K hK => ?_) AllReadyH.nil
    go_simp
    go_at_call 67
    refine (K4.out _ H4.out.1).mono ?_
    rintro e w5 ⟨d2, er, hd2, rfl, R5, o5⟩
    have H5 := Lib.hid (H4.out.step R5 o5)
    have p5 := H5.out.1.p0
    clear R5 o5
    go_simp
    refine hK.out _ _ (p5) (fun hHeld => ?_)
    try simp only [Act.put, pa, pb, pc]
    refine zpl [(13,33),(14,47),(15,48),(16,10),(17,11)] ?_
    iterate 5 (refine ztp (v := ?_) rfl (by kernel_rfl) (fun _ _ _ h => h) (by assumption) ?_ ?_; rotate_left; (·intro w hS; (try dsimp only at hS); go_simp; try with_reducible rfl); try simp only [Act.put, pa, pb, pc])
    refine zpe ?_
    refine wpAnyH_done (by kernel_rfl) ?_ _
    clear p0 p3 p4 p5
    by_cases he : er = 0
    ·subst he
     have e4 : IntKind.i64.wrap ((d2 : Int) + 1) = ((d2 + 1 : Nat) : Int) := by rw [show (d2 : Int) + 1 = ((d2 + 1 : Nat) : Int) by omega]; exact IntWalk.i64_in _ (by omega)
     obtain ⟨v', w6, ea, S6, ow, fr⟩ := append_one (P := Tryz.prog) H5.out.2.2.1 52 52 (.int .i64 0) 8 Tryz.underlying52 info_int2 rfl (.int .i64 (d2 : Nat)) rfl (by unfold maxLen; omega) (by omega)
     obtain ⟨V6, c6, rfl⟩ := slc_val S6
     have H6 := Lib.hid (show RL w w6 xq rs n (Kz + (mq + 1)) V6 (mq + 1) c6 (made ++ [(d2 : Int)]) from
      ⟨H5.out.1.far H5.out.2.2.1 ow, H5.out.2.1.trans_of ow (fun g hg hlt => by have := H5.out.2.2.2.1 g hg; omega), by rw [nvs'_append]; exact S6, fun g hg => (fr g hg).elim (H5.out.2.2.2.1 g) (fun h => by have := H5.out.2.1.size; omega), H5.out.2.2.2.2⟩)
     have EA := Lib.hid ea
     clear ea S6 ow fr
     go_wp2_with fail
     rw [EA.out]
     go_wp2_with fail
     have hmq := HMQ.out
     go_roundw
     case rel => exact ⟨i, d2 + 1, mq + 1, made ++ [(d2 : Int)], V6, c6, by omega, by go_num, by go_num, by omega, rfl, Lib.hid (by rw [List.length_append, HML.out]; rfl), H6⟩
     case measure => first | (simp [intOf]; done) | (simp [intOf]; omega)
    ·have hq : (er != 0) = true := by rw [bne_iff_ne]; exact he
     have hq2 : (er == 0) = false := by rw [beq_eq_false_iff_ne]; exact he
     go_wp2_with fail
     go_loopw [12] (fun tv wq => ∃ t : Nat, t ≤ mq ∧ tv = .int .i64 t ∧ Hid (RL w wq xq rs n (Kz + mq + 1) VA mq vc made)) (fun tv _ => mq - (intOf tv).toNat)
     case atStart => exact ⟨0, Nat.zero_le _, rfl, H5⟩
     case round =>
      obtain ⟨t, ht, rfl, HT⟩ := hrel
      have e5 : IntKind.i64.wrap ((t : Int) + 1) = ((t + 1 : Nat) : Int) := by rw [show (t : Int) + 1 = ((t + 1 : Nat) : Int) by omega]; exact IntWalk.i64_in _ (by omega)
      by_cases hlt : t < mq
      ·have hltI : (t : Int) < (mq : Int) := by omega
       obtain ⟨y, hy⟩ : ∃ y, made[t]? = some y := ⟨_, List.getElem?_eq_getElem (by rw [HML.out]; exact hlt)⟩
       obtain ⟨g, cp, rest, hv', BB, _⟩ := HT.out.2.2.1.form (by omega) (by omega)
       injection hv' with e6 e7 e8
       subst e6 e8
       rename World => wq
       have cx : wq.cell? ⟨g, t, none⟩ = some (.int .i64 y) := BB.cell_some (by
        rw [List.getElem?_toArray, List.getElem?_append_left (by simp [nvs']; rw [HML.out]; exact hlt)]
        simp [nvs', hy])
       have KQ := Lib.hid (KD.out wq (mq + 1) HT.out.1 y)
       clear BB hy
       go_wp2_with fail
       refine KQ.out.mono ?_
       rintro e w7 ⟨er2, rfl, R7, o7⟩
       have H7 := Lib.hid (HT.out.step R7 o7)
       clear R7 o7
       go_wp2_with fail
       go_roundw
       case rel => exact ⟨t + 1, by omega, by go_num, H7⟩
       case measure => first | (simp [intOf]; done) | (simp [intOf]; omega)
      ·have hltI : ¬ (t : Int) < (mq : Int) := by omega
       go_wp2_with fail
       go_ret2
       exact RV.mk (by first | rfl | simp) (by omega) HT.out.1 HT.out.2.1
   ·have hbI : ¬ (228 : Int) < (B.size : Int) := by omega
    have hCs : B.size ≤ 228 := by omega
    clear hBs
    go_wp2_with fail
    have K1 := Lib.hid (KT.out nx (by omega))
    have K2 := Lib.hid (KT.out B.size (by omega))
    have t1 : (⟨(twoL nx).toArray⟩ : ByteArray).size = 2 := rfl
    have t2 : (⟨(twoL B.size).toArray⟩ : ByteArray).size = 2 := rfl
    generalize (⟨(twoL nx).toArray⟩ : ByteArray) = T1 at *
    generalize (⟨(twoL B.size).toArray⟩ : ByteArray) = T2 at *
    have z1 : ¬ 9223372036854775807 < T1.size + T2.size := by omega
    have z2 : ¬ 9223372036854775807 < T1.size + T2.size + B.size := by omega
    have K4 := Lib.hid (fun (W : World) (hW : RH W xq rs n (Kz + mq)) => KW.out W mq (by omega) hW (T1 ++ T2 ++ B) (by rw [ByteArray.size_append, ByteArray.size_append]; omega))
    clear t1 t2
    have p0 := HD.out.1.p0
    refine wp_region_held_drew (S := fun W' => W'.cell? ⟨xq, 0, none⟩ = some (.pointer (some ⟨rs, 0, none⟩))) (by kernel_rfl) (p0) (fun hHeld => ?_)
    refine zpl [(0,34),(1,35),(2,36),(3,37),(4,38),(6,40),(7,41),(10,44)] ?_
    iterate 8 (refine ztp (v := ?_) rfl (by kernel_rfl) (fun _ _ _ h => h) (by assumption) ?_ ?_; rotate_left; (·intro w hS; (try dsimp only at hS); go_simp; try with_reducible rfl); try simp only [Act.put, pa, pb, pc])
    refine zpe ?_
    refine wpAnyH_ready (rs := [5]) (by kernel_rfl) (by simp) ?_
    refine AllReadyH.cons (o := ⟨some 39, _, _, _, _, _⟩) rfl (fun K hK => ?_) AllReadyH.nil
    go_simp
    go_at_call 178
    refine (K1.out _).mono ?_
    rintro e w3 ⟨rfl, hb3⟩
    have H3 := Lib.hid (HD.out.below hb3)
    have p3 := H3.out.1.p0
    clear hb3
    go_simp
    refine hK.out _ _ (p3) (fun hHeld => ?_)
    try simp only [Act.put, pa, pb, pc]
    refine wpAnyH_ready (rs := [8]) (by kernel_rfl) (by simp) ?_
    refine AllReadyH.cons (o := ⟨some 42, _, _, _, _, _⟩) rfl (fun K hK => ?_) AllReadyH.nil
    go_simp
    go_at_call 178
    refine (K2.out _).mono ?_
    rintro e w4 ⟨rfl, hb4⟩
    have H4 := Lib.hid (H3.out.below hb4)
    have p4 := H4.out.1.p0
    clear hb4
    go_simp
    refine hK.out _ _ (p4) (fun hHeld => ?_)
    try simp only [Act.put, pa, pb, pc]
    refine zpl [(9,43),(11,45)] ?_
    iterate 2 (refine ztp (v := ?_) rfl (by kernel_rfl) (fun _ _ _ h => h) (by assumption) ?_ ?_; rotate_left; (·intro w hS; (try dsimp only at hS); go_simp; try with_reducible rfl); try simp only [Act.put, pa, pb, pc])
    refine zpe ?_
    refine wpAnyH_ready (rs := [12]) (by kernel_rfl) (by simp) ?_
    refine AllReadyH.cons (o := ⟨some 46, _, _, _, _, _⟩) rfl (fun K hK => ?_) AllReadyH.nil
    go_simp
    go_at_call 67
    refine (K4.out _ H4.out.1).mono ?_
    rintro e w5 ⟨d2, er, hd2, rfl, R5, o5⟩
    have H5 := Lib.hid (H4.out.step R5 o5)
    have p5 := H5.out.1.p0
    clear R5 o5
    go_simp
    refine hK.out _ _ (p5) (fun hHeld => ?_)
    try simp only [Act.put, pa, pb, pc]
    refine zpl [(13,33),(14,47),(15,48),(16,10),(17,11)] ?_
    iterate 5 (refine ztp (v := ?_) rfl (by kernel_rfl) (fun _ _ _ h => h) (by assumption) ?_ ?_; rotate_left; (·intro w hS; (try dsimp only at hS); go_simp; try with_reducible rfl); try simp only [Act.put, pa, pb, pc])
    refine zpe ?_
    refine wpAnyH_done (by kernel_rfl) ?_ _
    clear p0 p3 p4 p5
    by_cases he : er = 0
    ·subst he
     have e4 : IntKind.i64.wrap ((d2 : Int) + 1) = ((d2 + 1 : Nat) : Int) := by rw [show (d2 : Int) + 1 = ((d2 + 1 : Nat) : Int) by omega]; exact IntWalk.i64_in _ (by omega)
     obtain ⟨v', w6, ea, S6, ow, fr⟩ := append_one (P := Tryz.prog) H5.out.2.2.1 52 52 (.int .i64 0) 8 Tryz.underlying52 info_int2 rfl (.int .i64 (d2 : Nat)) rfl (by unfold maxLen; omega) (by omega)
     obtain ⟨V6, c6, rfl⟩ := slc_val S6
     have H6 := Lib.hid (show RL w w6 xq rs n (Kz + (mq + 1)) V6 (mq + 1) c6 (made ++ [(d2 : Int)]) from
      ⟨H5.out.1.far H5.out.2.2.1 ow, H5.out.2.1.trans_of ow (fun g hg hlt => by have := H5.out.2.2.2.1 g hg; omega), by rw [nvs'_append]; exact S6, fun g hg => (fr g hg).elim (H5.out.2.2.2.1 g) (fun h => by have := H5.out.2.1.size; omega), H5.out.2.2.2.2⟩)
     have EA := Lib.hid ea
     clear ea S6 ow fr
     go_wp2_with fail
     rw [EA.out]
     go_wp2_with fail
     have hmq := HMQ.out
     go_roundw
     case rel => exact ⟨i, d2 + 1, mq + 1, made ++ [(d2 : Int)], V6, c6, by omega, by go_num, by go_num, by omega, rfl, Lib.hid (by rw [List.length_append, HML.out]; rfl), H6⟩
     case measure => first | (simp [intOf]; done) | (simp [intOf]; omega)
    ·have hq : (er != 0) = true := by rw [bne_iff_ne]; exact he
     have hq2 : (er == 0) = false := by rw [beq_eq_false_iff_ne]; exact he
     go_wp2_with fail
     go_loopw [12] (fun tv wq => ∃ t : Nat, t ≤ mq ∧ tv = .int .i64 t ∧ Hid (RL w wq xq rs n (Kz + mq + 1) VA mq vc made)) (fun tv _ => mq - (intOf tv).toNat)
     case atStart => exact ⟨0, Nat.zero_le _, rfl, H5⟩
     case round =>
      obtain ⟨t, ht, rfl, HT⟩ := hrel
      have e5 : IntKind.i64.wrap ((t : Int) + 1) = ((t + 1 : Nat) : Int) := by rw [show (t : Int) + 1 = ((t + 1 : Nat) : Int) by omega]; exact IntWalk.i64_in _ (by omega)
      by_cases hlt : t < mq
      ·have hltI : (t : Int) < (mq : Int) := by omega
       obtain ⟨y, hy⟩ : ∃ y, made[t]? = some y := ⟨_, List.getElem?_eq_getElem (by rw [HML.out]; exact hlt)⟩
       obtain ⟨g, cp, rest, hv', BB, _⟩ := HT.out.2.2.1.form (by omega) (by omega)
       injection hv' with e6 e7 e8
       subst e6 e8
       rename World => wq
       have cx : wq.cell? ⟨g, t, none⟩ = some (.int .i64 y) := BB.cell_some (by
        rw [List.getElem?_toArray, List.getElem?_append_left (by simp [nvs']; rw [HML.out]; exact hlt)]
        simp [nvs', hy])
       have KQ := Lib.hid (KD.out wq (mq + 1) HT.out.1 y)
       clear BB hy
       go_wp2_with fail
       refine KQ.out.mono ?_
       rintro e w7 ⟨er2, rfl, R7, o7⟩
       have H7 := Lib.hid (HT.out.step R7 o7)
       clear R7 o7
       go_wp2_with fail
       go_roundw
       case rel => exact ⟨t + 1, by omega, by go_num, H7⟩
       case measure => first | (simp [intOf]; done) | (simp [intOf]; omega)
      ·have hltI : ¬ (t : Int) < (mq : Int) := by omega
       go_wp2_with fail
       go_ret2
       exact RV.mk (by first | rfl | simp) (by omega) HT.out.1 HT.out.2.1
  ·have hj0 : j = 0 := by omega
   have hz : ((j : Nat) : Int) - 1 < 0 := by omega
   have e3 : IntKind.i64.wrap ((nx : Int) - 1) = (nx : Int) - 1 := IntWalk.i64_in _ (by omega)
   clear hj0
   go_wp2_with fail
   go_ret2
   exact RV.mk (by first | rfl | simp) (by omega) HA.out.1 HA.out.2.1
end Go.Proofs.YtbelcgjbhpjnpaaGreat.Sh
