/- the store by its contracts: Reach. -/
import Derived.Test.YtbelcgjbhpjnpaaGreatSo
import Derived.Test.YtbelcgjbhpjnpaaGreatWb
set_option linter.all false
set_option linter.unusedVariables false
set_option linter.unusedSimpArgs false
namespace Go.Proofs.YtbelcgjbhpjnpaaGreat.Sh
open Go.RowKit Pk Dk Pg
attribute [local go_sem ↓] Go.wp_at_zero Go.wp_at_succ exec_app
set_option maxRecDepth 100000 in
set_option maxHeartbeats 2000000 in
theorem clone_pl {w : World} {v : Value} {l : List Int} (S : Pl w v l.length (nvs' l)) (hl : l.length ≤ 100000) :
  Calls Tryz.prog 80 #[v] w fun e w' => ∃ v', e = .returned v' ∧ Sl w' 3 v' l.length (nvs' l) ∧ Below w.heap.size w w' ∧ ∀ g ∈ ownS v', w.heap.size ≤ g := by
 rcases S with S | ⟨_, g, cap, rest, rfl, h1, h2, B⟩
 ·exact clone_sl S hl
 have O0 := Rt.belowAlloc (Below.refl w.heap.size w) (.cells #[] 3)
 have E0 : Sl (w.alloc (.cells #[] 3)) 3 (.slice (some ⟨w.heap.size, 0, none⟩) 0 0) 0 (nvs' []) := ⟨rfl, .inl ⟨_, rfl, rfl⟩⟩
 have HN : ∀ j u, (nvs' l)[j]? = some u → ∃ a, some (⟨g, 0, none⟩ : Addr) = some a ∧ (w.alloc (.cells #[] 3)).cell? (a.add j) = some u := by
  intro j u hu
  have B2 := B.alloc (.cells #[] 3)
  refine ⟨_, rfl, ?_⟩
  rw [show (⟨g, 0, none⟩ : Addr).add j = ⟨g, j, none⟩ by unfold Addr.add; split <;> simp_all]
  have hj := (List.getElem?_eq_some_iff.1 hu).1
  exact B2.cell_some (by rw [List.getElem?_toArray, List.getElem?_append_left hj]; exact hu)
 obtain ⟨v1, w1, ea, S1, o1, f1⟩ := append_sl (P := Tryz.prog) E0 52 52 (.int .i64 0) 8 Tryz.underlying52 info_int2 rfl (some ⟨g, 0, none⟩) l.length cap (nvs' l) (by simp) HN (nvs'_one l) (by unfold maxLen; omega) (by omega)
 rw [Nat.zero_add, ← nvs'_append, List.nil_append] at S1
 have H1 := Lib.hid (show Sl w1 3 v1 l.length (nvs' l) ∧ Below w.heap.size w w1 ∧ ∀ g ∈ ownS v1, w.heap.size ≤ g from ⟨S1, O0.trans (o1.below_of (by simp) (fun x hx => by simp [ownS] at hx)), fun g hg => (f1 g hg).elim (fun h => by simp [ownS] at h) (fun h => by simp at h; omega)⟩)
 have EA := Lib.hid ea
 have HE := Lib.run_eql_slice_nil (P := Tryz.prog) w 52 3 (some ⟨g, 0, none⟩) l.length cap 0 0 Tryz.underlying52
 clear ea S1 o1 f1 HN E0 O0 B
 go_enter Tryz.func80, Tryz.ntmps80
 go_wp2_with fail
 rw [EA.out]
 go_wp2_with fail
 go_ret
 exact ⟨v1, by first | rfl | simp, H1.out⟩
theorem sort_sl {w : World} {v : Value} {l : List Int} (S : Sl w 3 v l.length (nvs' l)) (hl : l.length ≤ 1000000) :
  Calls Tryz.prog 81 #[v] w fun e w' => e = .returned (.tuple #[]) ∧ Sl w' 3 v l.length (nvs' (msort l)) ∧ Only (ownS v) w w' := by
 rcases S.2 with ⟨A, rfl, h0⟩ | ⟨g, cap, rest, rfl, h0, B, hc, hm⟩
 ·rw [h0]
  have hl0 : l = [] := List.length_eq_zero_iff.1 h0
  subst hl0
  refine (sort_none A 0 w).mono ?_
  rintro e w' ⟨rfl, rfl⟩
  exact ⟨rfl, ⟨by simp [msort], .inl ⟨A, rfl, rfl⟩⟩, Only.refl _ _⟩
 ·have S' : Slc w 3 1 (.slice (some ⟨g, 0, none⟩) l.length cap) l.length (nvs' l) := ⟨by simp, .inr ⟨g, cap, rest, rfl, B, by omega, hm⟩⟩
  refine (sort_slc S' hl).mono ?_
  rintro e w' ⟨rfl, S2, o⟩
  exact ⟨rfl, Sl.of_slc S2, o.mono (fun x hx _ => by simp [ownB] at hx; simp [ownS, hx]; omega)⟩
def reachL (c : C) : List Int := msort (c.parts ++ ids c.old)
theorem ids_app (a b : List Int) : ids (a ++ b) = ids a ++ ids b := by unfold ids; rw [List.filter_append]
theorem ids_le (l : List Int) : (ids l).length ≤ l.length := List.length_filter_le _ _
set_option maxRecDepth 100000 in
set_option maxHeartbeats 2000000 in
theorem reach_any {w : World} {x : X} {n : Nat} {c : C} (h : At w x n c) (hol : c.old.length ≤ 512) (hpl : c.parts.length ≤ 5) :
  Calls Tryz.prog 24 #[sp x.b] w fun e w' => ∃ v', e = .returned v' ∧ Sl w' 3 v' (reachL c).length (nvs' (reachL c)) ∧ Below w.heap.size w w' := by
 have f4 := h.f4
 have KC := Lib.hid (clone_pl h.hp (by omega))
 have HA := Lib.hid (fun (W : World) (hW : Below w.heap.size w W) => h.below hW)
 obtain ⟨OA, oc, hov, _⟩ := h.ho.val
 have HOV := Lib.hid hov
 have KS := Lib.hid (fun (W : World) (v : Value) (l : List Int) (S : Sl W 3 v l.length (nvs' l)) (hl : l.length ≤ 1000000) => sort_sl S hl)
 obtain ⟨m, hm⟩ : ∃ m, c.old.length = m := ⟨_, rfl⟩
 have HM := Lib.hid hm
 have HPL := Lib.hid hpl
 have HOL := Lib.hid hol
 have HRL := Lib.hid (show reachL c = msort (c.parts ++ ids (c.old.take m)) from by unfold reachL; rw [← hm, List.take_length])
 obtain ⟨PA, pc, hpv, _⟩ := h.hp.val
 rw [hpv] at f4 KC
 clear h hov hol hpl hpv
 unfold sp
 go_enter Tryz.func24, Tryz.ntmps24
 go_wp2_with fail
 refine KC.out.mono ?_
 rintro e w1 ⟨v1, rfl, S1, hb1, fr1⟩
 have O1 := Lib.hid hb1
 have f3 := (HA.out w1 hb1).f3
 rw [HOV.out, hm] at f3
 obtain ⟨VA, vc, rfl, _⟩ := S1.val
 have H1 := Lib.hid (show Sl w1 3 (.slice VA c.parts.length vc) (c.parts ++ ids (c.old.take 0)).length (nvs' (c.parts ++ ids (c.old.take 0))) ∧ ∀ g ∈ ownS (.slice VA c.parts.length vc), w.heap.size ≤ g from ⟨by simpa [ids] using S1, fr1⟩)
 clear S1 hb1 fr1 hm
 go_wp2_with fail
 go_loopw [3, 18] (fun sv iv wr => ∃ i : Nat, i ≤ m ∧ iv = .int .i64 i ∧ Hid (Sl wr 3 sv (c.parts ++ ids (c.old.take i)).length (nvs' (c.parts ++ ids (c.old.take i))) ∧ ∀ g ∈ ownS sv, w.heap.size ≤ g) ∧ Hid (Below w.heap.size w wr)) (fun _ iv _ => m - (intOf iv).toNat)
 case atStart => exact ⟨0, Nat.zero_le _, rfl, H1, O1⟩
 case round =>
  obtain ⟨i, hi, rfl, HS, O⟩ := hrel
  by_cases h' : i < m
  ·have hiI : (i : Int) < (m : Int) := by omega
   have A := HA.out wr O.out
   obtain ⟨g, cp, rest, hv, B, _, _⟩ := A.ho.form (by have := HM.out; omega)
   rw [HOV.out, HM.out] at hv
   injection hv with e1 e2 e3
   subst e1 e3
   clear e2
   obtain ⟨pid, hp⟩ : ∃ pid, c.old[i]? = some pid := ⟨_, List.getElem?_eq_getElem (by have := HM.out; omega)⟩
   have cj : wr.cell? ⟨g, i, none⟩ = some (.int .i64 pid) := B.cell_some (by
    rw [List.getElem?_toArray, List.getElem?_append_left (by rw [nvs'_length]; have := HM.out; omega)]
    unfold nvs'
    rw [List.getElem?_map, hp]; rfl)
   have ht : c.old.take (i + 1) = c.old.take i ++ [pid] := by
    rw [List.take_succ_eq_append_getElem (by have := HM.out; omega), (List.getElem?_eq_some_iff.1 hp).2]
   have ei : IntKind.i64.wrap ((i : Int) + 1) = ((i + 1 : Nat) : Int) := IntWalk.i64_in _ (by have := HM.out; have := HOL.out; omega)
   by_cases h0 : 0 ≤ pid
   ·have hx : c.parts ++ ids (c.old.take (i + 1)) = (c.parts ++ ids (c.old.take i)) ++ [pid] := by
     rw [ht, ids_app, ← List.append_assoc]
     congr 1
     simp [ids, h0]
    have HX := Lib.hid hx
    have hle : (c.parts ++ ids (c.old.take i)).length ≤ 600 := by
     rw [List.length_append]
     have := ids_le (c.old.take i)
     rw [List.length_take] at this
     have := HPL.out
     have := HOL.out
     omega
    obtain ⟨OL, hOL⟩ : ∃ OL, c.parts ++ ids (c.old.take i) = OL := ⟨_, rfl⟩
    rw [hOL] at HS hle hx HX
    obtain ⟨VS, vs, rfl, _⟩ := HS.out.1.val
    obtain ⟨v', w2, ea, S2, ow2, fr2⟩ := append_sl1 (P := Tryz.prog) HS.out.1 52 52 (.int .i64 0) 8 Tryz.underlying52 info_int2 rfl (.int .i64 pid) rfl (by unfold maxLen; omega) (by omega)
    have H2 := Lib.hid (show (Sl w2 3 v' (c.parts ++ ids (c.old.take (i + 1))).length (nvs' (c.parts ++ ids (c.old.take (i + 1)))) ∧ ∀ g ∈ ownS v', w.heap.size ≤ g) ∧ Below w.heap.size w w2 from by
     have hb2 : Below w.heap.size w w2 := O.out.trans (ow2.below_of O.out.size HS.out.2)
     refine ⟨⟨?_, fun g hg => (fr2 g hg).elim (HS.out.2 g) (fun h => by have := O.out.size; omega)⟩, hb2⟩
     rw [hx, nvs'_append, List.length_append]
     exact S2)
    have EA := Lib.hid ea
    clear hx ht ea S2 ow2 fr2 A B hp hOL
    go_wp2_with fail
    rw [EA.out]
    go_wp2_with fail
    go_roundw
    case rel => exact ⟨i + 1, by omega, by go_num, Lib.hid H2.out.1, Lib.hid H2.out.2⟩
    case measure => simp [intOf]; omega
   ·have HX := Lib.hid (show c.parts ++ ids (c.old.take (i + 1)) = c.parts ++ ids (c.old.take i) from by
     rw [ht, ids_app]
     congr 1
     simp [ids, h0])
    clear ht A B hp
    go_wp2_with fail
    go_roundw
    case rel => exact ⟨i + 1, by omega, by go_num, by rw [HX.out]; exact HS, O⟩
    case measure => simp [intOf]; omega
  ·obtain rfl : i = m := by omega
   have hle : (c.parts ++ ids (c.old.take i)).length ≤ 1000000 := by
    rw [List.length_append]
    have := ids_le (c.old.take i)
    rw [List.length_take] at this
    have := HPL.out
    have := HOL.out
    omega
   have KS2 := Lib.hid (KS.out wr _ _ HS.out.1 hle)
   go_wp2_with fail
   refine KS2.out.mono ?_
   rintro e w3 ⟨rfl, S3, o3⟩
   have H3 := Lib.hid (show Sl w3 3 _ (reachL c).length (nvs' (reachL c)) ∧ Below w.heap.size w w3 from ⟨by rw [HRL.out, msort_len]; exact S3, O.out.trans (o3.below_of O.out.size HS.out.2)⟩)
   clear S3 o3
   go_wp2_with fail
   go_ret
   exact ⟨_, by first | rfl | simp, H3.out⟩
end Go.Proofs.YtbelcgjbhpjnpaaGreat.Sh
