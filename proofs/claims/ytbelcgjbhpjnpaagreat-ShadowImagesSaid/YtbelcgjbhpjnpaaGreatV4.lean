/- the law's holds and same. -/
import Derived.Test.YtbelcgjbhpjnpaaGreatV3
import Derived.Deep.DrawnRows
set_option linter.all false
set_option linter.unusedVariables false
set_option linter.unusedSimpArgs false
namespace Go.Proofs.YtbelcgjbhpjnpaaGreat.Sh
open Go.RowKit Pk Dk Pg
attribute [local go_sem ↓] Go.wp_at_zero Go.wp_at_succ
theorem ints_of {w : World} {A : Option Addr} {n c : Nat} {l : List Int} (S : Slc w 3 1 (.slice A n c) n (nvs' l)) : Rt.IntsAt w A n l := by
 have hl := S.1
 rw [nvs'_length] at hl
 refine ⟨by omega, fun k x hx => ?_⟩
 rcases S.2 with ⟨h1, h2⟩ | ⟨g, cap, rest, h1, B, _⟩
 ·have := (List.getElem?_eq_some_iff.1 hx).1
  omega
 ·injection h1 with h1 h2 h3
  refine ⟨_, h1, ?_⟩
  rw [show (⟨g, 0, none⟩ : Addr).add k = ⟨g, k, none⟩ by unfold Addr.add; split <;> simp_all]
  have hk := (List.getElem?_eq_some_iff.1 hx).1
  exact B.cell_some (by rw [List.getElem?_toArray, List.getElem?_append_left (by simpa using hk)]; unfold nvs'; rw [List.getElem?_map, hx]; rfl)
/-- what a slot says -/
def saysF : Sl14 → List UInt8 × Int
 | some (_, b) => (b, 0)
 | none => ([], 3)
set_option maxRecDepth 100000 in
set_option maxHeartbeats 4000000 in
theorem holds_any {w : World} {x : X} {n : Nat} {c : C} {v : Value} {l : List Sl14} (h : At w x n c) (hv : SlAt w v l) (hl : l.length ≤ 512) (hr : ∀ (i : Nat) (o : Sl14), l[i]? = some o → c.readF n (i : Nat) = saysF o) (hp : pgs c.table c.table.length = pgsS l l.length) :
  Calls Tryz.prog 72 #[sp x.b, v] w fun e w' => e = .returned (.bool true) ∧ Below w.heap.size w w' := by
 have KP := Lib.hid (pages_list h)
 have KD := Lib.hid (fun (W : World) (hb : Below w.heap.size w W) => rpages14_any (hv.below hb) hl)
 have KI := Lib.hid (fun (W : World) (A A' : Option Addr) (n n' c c' : Nat) (l : List Int) (h1 : Rt.IntsAt W A n l) (h2 : Rt.IntsAt W A' n' l) (hn : n ≤ 1000000) (hn' : n' ≤ 1000000) => Rt.ints_any A A' n c n' c' l l h1 h2 hn hn' true (by simp))
 have KR := Lib.hid (fun (W : World) (hb : Below w.heap.size w W) (i : Nat) (o : Sl14) (ho : l[i]? = some o) => (show Calls Tryz.prog 29 #[sp x.b, .int .i64 (i : Nat)] W fun e w' => e = .returned (.tuple #[.string ⟨(saysF o).1.toArray⟩, .int .i64 (saysF o).2]) ∧ Below W.heap.size W w' from by rw [← hr i o ho]; exact read_any (h.below hb) i))
 have HC := Lib.hid (fun k o ho (W : World) (hb : Below w.heap.size w W) => (hv.below hb).get k o ho)
 obtain ⟨A, cc, rfl⟩ := hv.val
 obtain ⟨m, hm⟩ : ∃ m, l.length = m := ⟨_, rfl⟩
 rw [← hp] at KD
 have htl : (pgs c.table c.table.length).length ≤ 1000000 := by have := pgs_le c.table c.table.length; have := h.tl; omega
 generalize pgs c.table c.table.length = pl at *
 rw [hm] at hl HC KD ⊢
 have HM := Lib.hid hm
 clear h hv hm hr hp
 unfold sp at *
 go_enter Tryz.func72, Tryz.ntmps72
 go_wp2_with fail
 refine KP.out.mono ?_
 rintro e w1 ⟨A1, c1, rfl, S1, hb1⟩
 have O1 := Lib.hid hb1
 have I1 := Lib.hid (ints_of S1)
 clear S1 hb1
 go_wp2_with fail
 refine (KD.out w1 O1.out).mono ?_
 rintro e w2 ⟨A2, c2, rfl, S2, hb2⟩
 have O2 := Lib.hid (bstep O1.out hb2)
 have I2 := Lib.hid (ints_of S2)
 have J1 := Lib.hid (I1.out.below hb2)
 clear S2 hb2
 go_wp2_with fail
 refine (KI.out w2 _ _ _ _ c1 c2 pl J1.out I2.out htl htl).mono ?_
 rintro e w3 ⟨rfl, hb3⟩
 have O3 := Lib.hid (bstep O2.out hb3)
 clear hb3
 go_wp2_with fail
 go_loopw [5] (fun iv wr => ∃ i : Nat, i ≤ m ∧ iv = .int .i64 i ∧ Hid (Below w.heap.size w wr)) (fun iv _ => m - (intOf iv).toNat)
 case atStart => exact ⟨0, Nat.zero_le _, rfl, O3⟩
 case round =>
  obtain ⟨i, hi, rfl, O⟩ := hrel
  by_cases h' : i < m
  ·have hiI : (i : Int) < (m : Int) := by omega
   obtain ⟨s0, hs0⟩ : ∃ s0, l[i]? = some s0 := ⟨_, List.getElem?_eq_getElem (by have := HM.out; omega)⟩
   have KR2 := Lib.hid (KR.out wr O.out i s0 hs0)
   have HC2 := Lib.hid (HC.out i s0 hs0)
   have ei : IntKind.i64.wrap ((i : Int) + 1) = ((i + 1 : Nat) : Int) := IntWalk.i64_in _ (by omega)
   clear hs0
   go_wp2_with fail
   refine KR2.out.mono ?_
   rintro e w4 ⟨rfl, hb4⟩
   have O4 := Lib.hid (bstep O.out hb4)
   obtain ⟨g, cp, hv, d0, d1, d2⟩ := HC2.out w4 O4.out
   injection hv with e1 e2 e3
   subst e1 e3
   clear e2 hb4
   rcases s0 with _ | ⟨fr, b⟩
   ·unfold bS at d2
    dsimp only [saysF, Option.isSome_none] at *
    go_wp2_with fail
    go_roundw
    case rel => exact ⟨i + 1, by omega, by go_num, O4⟩
    case measure => simp [intOf]; omega
   ·unfold bS at d2
    dsimp only [saysF, Option.isSome_some] at *
    go_wp2_with fail
    go_roundw
    case rel => exact ⟨i + 1, by omega, by go_num, O4⟩
    case measure => simp [intOf]; omega
  ·obtain rfl : i = m := by omega
   go_wp2_with fail
   go_ret
   exact ⟨by first | rfl | simp, O.out⟩
set_option maxRecDepth 100000 in
set_option maxHeartbeats 4000000 in
theorem LS.same {w0 w : World} {x : X} {rb n : Nat} {c : C} {a : St} {α : Int} {K : Nat} {tw : Bool} (S : LS w0 w x rb n c a α K tw) :
  Calls Tryz.prog 17 #[sp x.b, rp rb] w fun e w' => e = .returned (.bool true) ∧ Below w.heap.size w w' := by
 obtain ⟨nv, ov, R, _⟩ := S.rt
 obtain ⟨k, ek⟩ := S.e
 obtain ⟨n0, n1, n2, n3⟩ := counts S.g
 have hroom := S.room
 have KC := scount_any S.at_
 have ef : a.free = (c.absF n).free := by rw [ek, pad_free]
 have eg : a.fresh = (c.absF n).fresh := by rw [ek, pad_fresh]
 have eh : a.kept = (c.absF n).kept := by rw [ek, pad_kept]
 have ei : a.leaving = (c.absF n).leaving := by rw [ek, pad_leaving]
 rw [show (c.armed α).m = c.m from rfl, n0, n1, n3, ← ef, ← eg, ← ei] at KC
 have hu : IntKind.i64.wrap (((Fm.listF c.m 1).length : Int) + (a.leaving : Int)) = (a.kept : Int) := by
  rw [show ((Fm.listF c.m 1).length : Int) + (a.leaving : Int) = (a.kept : Nat) by omega]
  have hm : c.m.length ≤ 1024 := by rw [S.g.ml]; unfold pagesF; omega
  have := R.lm
  exact IntWalk.i64_in _ (by omega)
 generalize (Fm.listF c.m 1).length = us at *
 have KH := Lib.hid (fun (W : World) (hb : Below w.heap.size w W) => holds_any (S.at_.below hb) (R.below hb).hn R.ln (fun i s0 hs => by
  show c.readF n (i : Nat) = _
  rw [read_good S.g]
  have hat : (c.absF n).at ((i : Nat) : Int) = s0 := by
   rw [← pad_at _ k, ← ek]
   unfold St.at
   rw [if_pos (by omega), show ((i : Nat) : Int).toNat = i by omega, hs]
   rfl
  unfold St.readF
  rw [hat]
  cases s0 <;> rfl) (by
  show pgs c.table c.table.length = _
  rw [pgs_abs (n := n) _ (Nat.le_refl _), ek]
  have hl : (c.absF n).now.length = c.table.length := by unfold C.absF; simp
  show _ = pgsS ((c.absF n).now ++ List.replicate k none) ((c.absF n).now ++ List.replicate k (none : Sl14)).length
  rw [List.length_append, List.length_replicate, pad_pgs, hl]))
 have KE := Lib.hid (fun (W : World) (hb : Below w.heap.size w W) => epoch_any (S.at_.below hb))
 have KF := Lib.hid (fun (W : World) (hb : Below w.heap.size w W) => (rfree_any (R.below hb) hroom).mono (R' := fun e w' => e = .returned (.int .i64 (a.free : Nat)) ∧ Below W.heap.size W w') fun e w' h => ⟨h.1, by obtain ⟨m, hm⟩ := h.2; rw [hm]; exact Below_drewN (Below.refl _ _) m⟩)
 have KG := Lib.hid (fun (W : World) (hb : Below w.heap.size w W) => rfresh_any (R.below hb))
 have KK := Lib.hid (fun (W : World) (hb : Below w.heap.size w W) => (rkept_any (R.below hb)).mono (R' := fun e w' => e = .returned (.int .i64 (a.kept : Nat)) ∧ Below W.heap.size W w') fun e w' h => ⟨h.1, by obtain ⟨m, hm⟩ := h.2; rw [hm]; exact Below_drewN (Below.refl _ _) m⟩)
 have KL := Lib.hid (fun (W : World) (hb : Below w.heap.size w W) => rleaving_any (R.below hb))
 have hee : (c.armed α).ep = a.ep := by rw [ek]; rfl
 rw [hee] at KE
 have HS := Lib.hid (fun (W : World) (hb : Below w.heap.size w W) => (show W.cell? ⟨rb, 1, none⟩ = some nv ∧ W.cell? ⟨rb, 3, none⟩ = some (.int .i64 a.ep) from ⟨(R.below hb).f1, (R.below hb).f3⟩))
 have KC := Lib.hid KC
 generalize a.ep = ep at *
 generalize a.free = fr at *
 generalize a.fresh = fs at *
 generalize a.kept = kp at *
 generalize a.leaving = lv at *
 clear S R ek n0 n1 n2 n3 hroom ef eg eh ei hee
 unfold sp rp at *
 go_enter Tryz.func17, Tryz.ntmps17
 go_wp2_with fail
 refine KC.out.mono ?_
 rintro e w1 ⟨rfl, hb1⟩
 have O1 := Lib.hid (bstep hb1 (Below.refl w1.heap.size w1).drew)
 clear hb1
 go_wp2_with fail
 refine wp_region_held_drew (S := fun W' => W'.cell? ⟨rb, 1, none⟩ = some nv ∧ W'.cell? ⟨rb, 3, none⟩ = some (.int .i64 ep)) (by kernel_rfl) (HS.out _ O1.out) (fun hHeld => ?_)
 refine tkf (i := 0) (oi := ⟨some 16, _, _, _, _, _⟩) (v := ?_) rfl (by kernel_rfl) (fun _ _ _ h => h) (by assumption) ?_ ?_
 rotate_left
 ·(intro w hS; (try dsimp only at hS); go_simp; try with_reducible rfl)
 try simp only [Act.put, pa, pb, pc]
 refine tkf (i := 1) (oi := ⟨some 17, _, _, _, _, _⟩) (v := ?_) rfl (by kernel_rfl) (fun _ _ _ h => h) (by assumption) ?_ ?_
 rotate_left
 ·(intro w hS; (try dsimp only at hS); go_simp; try with_reducible rfl)
 try simp only [Act.put, pa, pb, pc]
 refine tkf (i := 2) (oi := ⟨some 18, _, _, _, _, _⟩) (v := ?_) rfl (by kernel_rfl) (fun _ _ _ h => h) (by assumption) ?_ ?_
 rotate_left
 ·(intro w hS; (try dsimp only at hS); go_simp; try with_reducible rfl)
 try simp only [Act.put, pa, pb, pc]
 refine tkf (i := 3) (oi := ⟨some 19, _, _, _, _, _⟩) (v := ?_) rfl (by kernel_rfl) (fun _ _ _ h => h) (by assumption) ?_ ?_
 rotate_left
 ·(intro w hS; (try dsimp only at hS); go_simp; try with_reducible rfl)
 try simp only [Act.put, pa, pb, pc]
 refine tkf (i := 4) (oi := ⟨some 20, _, _, _, _, _⟩) (v := ?_) rfl (by kernel_rfl) (fun _ _ _ h => h) (by assumption) ?_ ?_
 rotate_left
 ·(intro w hS; (try dsimp only at hS); go_simp; try with_reducible rfl)
 try simp only [Act.put, pa, pb, pc]
 refine wpAnyH_ready (rs := [5]) (by kernel_rfl) (by simp) ?_
 refine AllReadyH.cons (o := ⟨some 21, _, _, _, _, _⟩) rfl (fun K hK => ?_) AllReadyH.nil
 go_simp
 go_at_call 72
 refine (KH.out _ O1.out).mono ?_
 rintro e w2 ⟨rfl, hb⟩
 have O2 := Lib.hid (bstep O1.out hb)
 clear hb
 go_simp
 refine hK.out _ _ (HS.out _ O2.out) (fun hHeld => ?_)
 try simp only [Act.put, pa, pb, pc]
 refine tkf (i := 6) (oi := ⟨some 22, _, _, _, _, _⟩) (v := ?_) rfl (by kernel_rfl) (fun _ _ _ h => h) (by assumption) ?_ ?_
 rotate_left
 ·(intro w hS; (try dsimp only at hS); go_simp; try with_reducible rfl)
 try simp only [Act.put, pa, pb, pc]
 refine tkf (i := 7) (oi := ⟨some 23, _, _, _, _, _⟩) (v := ?_) rfl (by kernel_rfl) (fun _ _ _ h => h) (by assumption) ?_ ?_
 rotate_left
 ·(intro w hS; (try dsimp only at hS); go_simp; try with_reducible rfl)
 try simp only [Act.put, pa, pb, pc]
 refine tkf (i := 9) (oi := ⟨some 25, _, _, _, _, _⟩) (v := ?_) rfl (by kernel_rfl) (fun _ _ _ h => h) (by assumption) ?_ ?_
 rotate_left
 ·(intro w hS; (try dsimp only at hS); go_simp; try with_reducible rfl)
 try simp only [Act.put, pa, pb, pc]
 refine tkf (i := 10) (oi := ⟨some 26, _, _, _, _, _⟩) (v := ?_) rfl (by kernel_rfl) (fun _ _ _ h => h) (by assumption) ?_ ?_
 rotate_left
 ·(intro w hS; (try dsimp only at hS); go_simp; try with_reducible rfl)
 try simp only [Act.put, pa, pb, pc]
 refine tkf (i := 11) (oi := ⟨some 27, _, _, _, _, _⟩) (v := ?_) rfl (by kernel_rfl) (fun _ _ _ h => h) (by assumption) ?_ ?_
 rotate_left
 ·(intro w hS; (try dsimp only at hS); go_simp; try with_reducible rfl)
 try simp only [Act.put, pa, pb, pc]
 refine tkf (i := 12) (oi := ⟨some 28, _, _, _, _, _⟩) (v := ?_) rfl (by kernel_rfl) (fun _ _ _ h => h) (by assumption) ?_ ?_
 rotate_left
 ·(intro w hS; (try dsimp only at hS); go_simp; try with_reducible rfl)
 try simp only [Act.put, pa, pb, pc]
 refine wpAnyH_ready (rs := [8]) (by kernel_rfl) (by simp) ?_
 refine AllReadyH.cons (o := ⟨some 24, _, _, _, _, _⟩) rfl (fun K hK => ?_) AllReadyH.nil
 go_simp
 go_at_call 27
 refine (KE.out _ O2.out).mono ?_
 rintro e w3 ⟨rfl, rfl⟩
 have O3 := O2
 go_simp
 refine hK.out _ _ (HS.out _ O3.out) (fun hHeld => ?_)
 try simp only [Act.put, pa, pb, pc]
 refine tkf (i := 13) (oi := ⟨some 29, _, _, _, _, _⟩) (v := ?_) rfl (by kernel_rfl) (fun _ _ _ h => h) (by assumption) ?_ ?_
 rotate_left
 ·(intro w hS; (try dsimp only at hS); go_simp; try with_reducible rfl)
 try simp only [Act.put, pa, pb, pc]
 refine tkf (i := 14) (oi := ⟨some 30, _, _, _, _, _⟩) (v := ?_) rfl (by kernel_rfl) (fun _ _ _ h => h) (by assumption) ?_ ?_
 rotate_left
 ·(intro w hS; (try dsimp only at hS); go_simp; try with_reducible rfl)
 try simp only [Act.put, pa, pb, pc]
 refine tkf (i := 15) (oi := ⟨some 31, _, _, _, _, _⟩) (v := ?_) rfl (by kernel_rfl) (fun _ _ _ h => h) (by assumption) ?_ ?_
 rotate_left
 ·(intro w hS; (try dsimp only at hS); go_simp; try with_reducible rfl)
 try simp only [Act.put, pa, pb, pc]
 refine tkf (i := 16) (oi := ⟨some 32, _, _, _, _, _⟩) (v := ?_) rfl (by kernel_rfl) (fun _ _ _ h => h) (by assumption) ?_ ?_
 rotate_left
 ·(intro w hS; (try dsimp only at hS); go_simp; try with_reducible rfl)
 try simp only [Act.put, pa, pb, pc]
 refine tkf (i := 17) (oi := ⟨some 33, _, _, _, _, _⟩) (v := ?_) rfl (by kernel_rfl) (fun _ _ _ h => h) (by assumption) ?_ ?_
 rotate_left
 ·(intro w hS; (try dsimp only at hS); go_simp; try with_reducible rfl)
 try simp only [Act.put, pa, pb, pc]
 refine wpAnyH_ready (rs := [18]) (by kernel_rfl) (by simp) ?_
 refine AllReadyH.cons (o := ⟨some 34, _, _, _, _, _⟩) rfl (fun K hK => ?_) AllReadyH.nil
 go_simp
 go_at_call 73
 refine (KF.out _ O3.out).mono ?_
 rintro e w4 ⟨rfl, hb⟩
 have O4 := Lib.hid (bstep O3.out hb)
 clear hb
 go_simp
 refine hK.out _ _ (HS.out _ O4.out) (fun hHeld => ?_)
 try simp only [Act.put, pa, pb, pc]
 refine tkf (i := 19) (oi := ⟨some 35, _, _, _, _, _⟩) (v := ?_) rfl (by kernel_rfl) (fun _ _ _ h => h) (by assumption) ?_ ?_
 rotate_left
 ·(intro w hS; (try dsimp only at hS); go_simp; try with_reducible rfl)
 try simp only [Act.put, pa, pb, pc]
 refine tkf (i := 20) (oi := ⟨some 36, _, _, _, _, _⟩) (v := ?_) rfl (by kernel_rfl) (fun _ _ _ h => h) (by assumption) ?_ ?_
 rotate_left
 ·(intro w hS; (try dsimp only at hS); go_simp; try with_reducible rfl)
 try simp only [Act.put, pa, pb, pc]
 refine tkf (i := 21) (oi := ⟨some 37, _, _, _, _, _⟩) (v := ?_) rfl (by kernel_rfl) (fun _ _ _ h => h) (by assumption) ?_ ?_
 rotate_left
 ·(intro w hS; (try dsimp only at hS); go_simp; try with_reducible rfl)
 try simp only [Act.put, pa, pb, pc]
 refine tkf (i := 22) (oi := ⟨some 38, _, _, _, _, _⟩) (v := ?_) rfl (by kernel_rfl) (fun _ _ _ h => h) (by assumption) ?_ ?_
 rotate_left
 ·(intro w hS; (try dsimp only at hS); go_simp; try with_reducible rfl)
 try simp only [Act.put, pa, pb, pc]
 refine tkf (i := 23) (oi := ⟨some 39, _, _, _, _, _⟩) (v := ?_) rfl (by kernel_rfl) (fun _ _ _ h => h) (by assumption) ?_ ?_
 rotate_left
 ·(intro w hS; (try dsimp only at hS); go_simp; try with_reducible rfl)
 try simp only [Act.put, pa, pb, pc]
 refine wpAnyH_ready (rs := [24]) (by kernel_rfl) (by simp) ?_
 refine AllReadyH.cons (o := ⟨some 40, _, _, _, _, _⟩) rfl (fun K hK => ?_) AllReadyH.nil
 go_simp
 go_at_call 74
 refine (KG.out _ O4.out).mono ?_
 rintro e w5 ⟨rfl, rfl⟩
 have O5 := O4
 go_simp
 refine hK.out _ _ (HS.out _ O5.out) (fun hHeld => ?_)
 try simp only [Act.put, pa, pb, pc]
 refine tkf (i := 25) (oi := ⟨some 41, _, _, _, _, _⟩) (v := ?_) rfl (by kernel_rfl) (fun _ _ _ h => h) (by assumption) ?_ ?_
 rotate_left
 ·(intro w hS; (try dsimp only at hS); go_simp; try with_reducible rfl)
 try simp only [Act.put, pa, pb, pc]
 refine tkf (i := 26) (oi := ⟨some 42, _, _, _, _, _⟩) (v := ?_) rfl (by kernel_rfl) (fun _ _ _ h => h) (by assumption) ?_ ?_
 rotate_left
 ·(intro w hS; (try dsimp only at hS); go_simp; try with_reducible rfl)
 try simp only [Act.put, pa, pb, pc]
 refine tkf (i := 27) (oi := ⟨some 43, _, _, _, _, _⟩) (v := ?_) rfl (by kernel_rfl) (fun _ _ _ h => h) (by assumption) ?_ ?_
 rotate_left
 ·(intro w hS; (try dsimp only at hS); go_simp; try with_reducible rfl)
 try simp only [Act.put, pa, pb, pc]
 refine tkf (i := 28) (oi := ⟨some 44, _, _, _, _, _⟩) (v := ?_) rfl (by kernel_rfl) (fun _ _ _ h => h) (by assumption) ?_ ?_
 rotate_left
 ·(intro w hS; (try dsimp only at hS); go_simp; try with_reducible rfl)
 try simp only [Act.put, pa, pb, pc]
 refine tkf (i := 29) (oi := ⟨some 45, _, _, _, _, _⟩) (v := ?_) rfl (by kernel_rfl) (fun _ _ _ h => h) (by assumption) ?_ ?_
 rotate_left
 ·(intro w hS; (try dsimp only at hS); go_simp; try with_reducible rfl)
 try simp only [Act.put, pa, pb, pc]
 refine tkf (i := 30) (oi := ⟨some 46, _, _, _, _, _⟩) (v := ?_) rfl (by kernel_rfl) (fun _ _ _ h => h) (by assumption) ?_ ?_
 rotate_left
 ·(intro w hS; (try dsimp only at hS); go_simp; try with_reducible rfl)
 try simp only [Act.put, pa, pb, pc]
 refine tkf (i := 31) (oi := ⟨some 47, _, _, _, _, _⟩) (v := ?_) rfl (by kernel_rfl) (fun _ _ _ h => h) (by assumption) ?_ ?_
 rotate_left
 ·(intro w hS; (try dsimp only at hS); go_simp; try with_reducible rfl)
 try simp only [Act.put, pa, pb, pc]
 refine wpAnyH_ready (rs := [32]) (by kernel_rfl) (by simp) ?_
 refine AllReadyH.cons (o := ⟨some 48, _, _, _, _, _⟩) rfl (fun K hK => ?_) AllReadyH.nil
 go_simp
 go_at_call 75
 refine (KK.out _ O5.out).mono ?_
 rintro e w6 ⟨rfl, hb⟩
 have O6 := Lib.hid (bstep O5.out hb)
 clear hb
 go_simp
 refine hK.out _ _ (HS.out _ O6.out) (fun hHeld => ?_)
 try simp only [Act.put, pa, pb, pc]
 refine tkf (i := 33) (oi := ⟨some 49, _, _, _, _, _⟩) (v := ?_) rfl (by kernel_rfl) (fun _ _ _ h => h) (by assumption) ?_ ?_
 rotate_left
 ·(intro w hS; (try dsimp only at hS); go_simp; try with_reducible rfl)
 try simp only [Act.put, pa, pb, pc]
 refine tkf (i := 34) (oi := ⟨some 50, _, _, _, _, _⟩) (v := ?_) rfl (by kernel_rfl) (fun _ _ _ h => h) (by assumption) ?_ ?_
 rotate_left
 ·(intro w hS; (try dsimp only at hS); go_simp; try with_reducible rfl)
 try simp only [Act.put, pa, pb, pc]
 refine tkf (i := 35) (oi := ⟨some 51, _, _, _, _, _⟩) (v := ?_) rfl (by kernel_rfl) (fun _ _ _ h => h) (by assumption) ?_ ?_
 rotate_left
 ·(intro w hS; (try dsimp only at hS); go_simp; try with_reducible rfl)
 try simp only [Act.put, pa, pb, pc]
 refine tkf (i := 36) (oi := ⟨some 52, _, _, _, _, _⟩) (v := ?_) rfl (by kernel_rfl) (fun _ _ _ h => h) (by assumption) ?_ ?_
 rotate_left
 ·(intro w hS; (try dsimp only at hS); go_simp; try with_reducible rfl)
 try simp only [Act.put, pa, pb, pc]
 refine tkf (i := 37) (oi := ⟨some 53, _, _, _, _, _⟩) (v := ?_) rfl (by kernel_rfl) (fun _ _ _ h => h) (by assumption) ?_ ?_
 rotate_left
 ·(intro w hS; (try dsimp only at hS); go_simp; try with_reducible rfl)
 try simp only [Act.put, pa, pb, pc]
 refine wpAnyH_ready (rs := [38]) (by kernel_rfl) (by simp) ?_
 refine AllReadyH.cons (o := ⟨some 54, _, _, _, _, _⟩) rfl (fun K hK => ?_) AllReadyH.nil
 go_simp
 go_at_call 76
 refine (KL.out _ O6.out).mono ?_
 rintro e w7 ⟨rfl, rfl⟩
 have O7 := O6
 go_simp
 refine hK.out _ _ (HS.out _ O7.out) (fun hHeld => ?_)
 try simp only [Act.put, pa, pb, pc]
 refine tkf (i := 39) (oi := ⟨some 55, _, _, _, _, _⟩) (v := ?_) rfl (by kernel_rfl) (fun _ _ _ h => h) (by assumption) ?_ ?_
 rotate_left
 ·(intro w hS; (try dsimp only at hS); go_simp; try with_reducible rfl)
 try simp only [Act.put, pa, pb, pc]
 refine tkf (i := 40) (oi := ⟨some 56, _, _, _, _, _⟩) (v := ?_) rfl (by kernel_rfl) (fun _ _ _ h => h) (by assumption) ?_ ?_
 rotate_left
 ·(intro w hS; (try dsimp only at hS); go_simp; try with_reducible rfl)
 try simp only [Act.put, pa, pb, pc]
 refine tkf (i := 41) (oi := ⟨some 4, _, _, _, _, _⟩) (v := ?_) rfl (by kernel_rfl) (fun _ _ _ h => h) (by assumption) ?_ ?_
 rotate_left
 ·(intro w hS; (try dsimp only at hS); go_simp; try with_reducible rfl)
 try simp only [Act.put, pa, pb, pc]
 refine wpAnyH_done (by kernel_rfl) ?_ _
 go_wp2_with fail
 go_ret
 exact ⟨by first | rfl | simp, O7.out⟩
end Go.Proofs.YtbelcgjbhpjnpaaGreat.Sh
