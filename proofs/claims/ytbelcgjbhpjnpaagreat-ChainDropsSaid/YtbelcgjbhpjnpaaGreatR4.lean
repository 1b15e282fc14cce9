/- the document's store by its contracts: New, Write, Drop. -/
import Derived.Test.YtbelcgjbhpjnpaaGreatTa
set_option linter.all false
set_option linter.unusedVariables false
set_option linter.unusedSimpArgs false
namespace Go.Proofs.YtbelcgjbhpjnpaaGreat.Sh
open Go.RowKit Pk Dk Pg
attribute [local go_sem ↓] Go.wp_at_zero Go.wp_at_succ
/-- the document's store behind a call -/
def RTo (w w' : World) (b : Nat) (nv ov : Value) (a' : St) : Prop := ∃ nv' ov', RAt w' b nv' ov' a' ∧ Only [b] w w' ∧ ∀ g ∈ b :: (ownB nv' ++ ownB ov'), g ∈ b :: (ownB nv ++ ownB ov) ∨ w.heap.size ≤ g
theorem RTo.self {w w' : World} {b : Nat} {nv ov : Value} {a : St} (h : RAt w' b nv ov a) (o : Only [b] w w') : RTo w w' b nv ov a := ⟨nv, ov, h, o, fun _ hg => .inl hg⟩
/-- a new list of pages laid -/
theorem RAt.setNow {w w1 : World} {b : Nat} {nv ov v' : Value} {a : St} {l' : List Sl14} (h : RAt w b nv ov a) (hb : Below w.heap.size w w1) (S : SlAt w1 v' l') (fr : ∀ g ∈ ownB v', w.heap.size ≤ g) (hl : l'.length ≤ 512) :
  w1.cell? ⟨b, 1, none⟩ = some nv ∧ w1.frozen? ⟨b, 1, none⟩ = false ∧ RTo w (w1.setCell ⟨b, 1, none⟩ v') b nv ov { a with now := l' } := by
 have B1 := h.hb.below hb h.hb.lt
 have o1 : Only [b] w1 (w1.setCell ⟨b, 1, none⟩ v') := (Only.refl _ _).setCell (by simp) _
 have hob := h.ho.below hb
 refine ⟨B1.cell_some rfl, B1.frozen 1 (by simp), v', ov, ⟨B1.set_ 1 v', S.only o1 (fun g hg hm => slc_ne S B1 (by decide) (by rw [← List.mem_singleton.1 hm]; exact hg)), hob.only o1 (fun g hg hm => slc_ne hob B1 (by decide) (by rw [← List.mem_singleton.1 hm]; exact hg)), hl, h.lo, h.lm, h.le⟩, (Only.of_below hb).trans o1, fun g hg => ?_⟩
 rcases List.mem_cons.1 hg with rfl | hg
 ·exact .inl (List.mem_cons_self ..)
 ·rcases List.mem_append.1 hg with hg | hg
  ·exact .inr (fr g hg)
  ·exact .inl (List.mem_cons_of_mem _ (List.mem_append_right _ hg))
/-- a page is written anew -/
def St.writeF (a : St) (l : Int) (p : List UInt8) : St × Int :=
 if 232 < p.length then (a, 4)
 else if ¬ (a.at l).isSome = true then (a, 3)
 else if isFresh (a.at l) = false ∧ a.free = 0 then (a, 11)
 else ({ a with now := a.now.set l.toNat (some (true, padL p 232)) }, 0)
theorem slot_eq (a : St) (k : Nat) (hk : k ≤ a.now.length) (h : ∀ j, j < k → (a.at (j : Nat)).isSome = true) (h2 : (a.at (k : Nat)).isSome = false) : a.slot = k := by
 have hle : k ≤ a.slot := by
  rcases Nat.lt_or_ge a.slot k with h1 | h1
  ·have := h _ h1
   rw [slot_none] at this
   cases this
  ·exact h1
 rcases Nat.lt_or_ge k a.slot with h1 | h1
 ·have := List.not_of_lt_findIdx (p := Option.isNone) (xs := a.now) (i := k) h1
  unfold St.at at h2
  rw [if_pos (by omega), show ((k : Nat) : Int).toNat = k by omega, List.getElem?_eq_getElem (by have := slot_le a; omega)] at h2
  simp at h2 this
  rw [h2] at this
  simp at this
 ·omega
set_option maxRecDepth 100000 in
set_option maxHeartbeats 2000000 in
theorem rdrop14_any {w : World} {b : Nat} {nv ov : Value} {a : St} (h : RAt w b nv ov a) (l : Int) :
  Calls Tryz.prog 68 #[rp b, .int .i64 l] w fun e w' => e = .returned (.int .i64 (a.dropF l).2) ∧ RTo w w' b nv ov (a.dropF l).1 := by
 have KA := Lib.hid (rat_any h l)
 have HH := Lib.hid h
 unfold St.dropF
 unfold rp at *
 by_cases h0 : (a.at l).isSome = true
 ·rw [if_pos h0]
  rw [h0] at KA
  obtain ⟨hl0, hl1⟩ := at_some h0
  obtain ⟨k, rfl⟩ := Int.eq_ofNat_of_zero_le hl0
  rw [show ((k : Nat) : Int).toNat = k by omega] at hl1 ⊢
  have KS := Lib.hid (rset14_any h.hn h.ln k (by omega) none)
  rw [show putS a.now k (none : Sl14) = a.now.set k none from by unfold putS; rw [if_neg (by omega)]] at KS
  unfold slV at KS
  rw [show ((none : Sl14).isSome) = false from rfl, show isFresh none = false from rfl, show bS none = ⟨#[]⟩ from rfl] at KS
  have f1 := h.f1
  have hln : (a.now.set k none).length ≤ 512 := by rw [List.length_set]; exact h.ln
  generalize a.now.set k none = NL at *
  obtain ⟨VA, vc, hv⟩ := h.hn.val
  clear h h0 hv
  go_enter Tryz.func68, Tryz.ntmps68
  go_wp2_with fail
  refine KA.out.mono ?_
  rintro e w1 ⟨rfl, rfl⟩
  go_wp2_with fail
  refine KS.out.mono ?_
  rintro e w2 ⟨v', rfl, S2, hb2, fr2⟩
  obtain ⟨V2, c2, rfl⟩ := S2.val
  obtain ⟨c1, z1, R⟩ := HH.out.setNow hb2 S2 fr2 hln
  have R := Lib.hid R
  clear S2 hb2 fr2
  go_wp2_with fail
  go_ret
  exact ⟨by first | rfl | simp, R.out⟩
 ·have h1 : (a.at l).isSome = false := by simpa using h0
  rw [if_neg h0]
  rw [h1] at KA
  clear h h0 h1
  go_enter Tryz.func68, Tryz.ntmps68
  go_wp2_with fail
  refine KA.out.mono ?_
  rintro e w1 ⟨rfl, rfl⟩
  go_wp2_with fail
  go_ret
  exact ⟨by first | rfl | simp, .self HH.out (Only.refl _ _)⟩
set_option maxRecDepth 100000 in
set_option maxHeartbeats 2000000 in
theorem rnew14_any {w : World} {b : Nat} {nv ov : Value} {a : St} (h : RAt w b nv ov a) (hk : a.fresh + a.kept ≤ a.many) (s : ByteArray) (hs : s.size ≤ 1000000) :
  Calls Tryz.prog 67 #[rp b, .string s] w fun e w' => e = .returned (.tuple #[.int .i64 (a.newF s.data.toList).2.1, .int .i64 (a.newF s.data.toList).2.2]) ∧ RTo w w' b nv ov (a.newF s.data.toList).1 := by
 have HH := Lib.hid h
 have hsl : s.data.toList.length = s.size := by simp
 obtain ⟨R, hR⟩ : ∃ R, a.newF s.data.toList = R := ⟨_, rfl⟩
 rw [hR]
 unfold St.newF at hR
 rw [hsl] at hR
 have ln := h.ln
 by_cases h1 : 232 < s.size
 ·rw [if_pos h1] at hR
  subst hR
  have h1I : (232 : Int) < (s.size : Int) := by omega
  clear h
  unfold rp at *
  go_enter Tryz.func67, Tryz.ntmps67
  go_wp2_with fail
  go_ret2
  exact ⟨by first | rfl | simp, .self HH.out (Only.refl _ _)⟩
 rw [if_neg h1] at hR
 have h1I : ¬ (232 : Int) < (s.size : Int) := by omega
 have HR := Lib.hid hR
 have KF := Lib.hid (rfree_any h hk)
 have KA := Lib.hid (fun l => rat_any h l)
 clear h hR hsl
 unfold rp at *
 go_enter Tryz.func67, Tryz.ntmps67
 go_wp2_with fail
 go_loopw [6] (fun iv wr => ∃ k : Nat, k ≤ a.now.length ∧ iv = .int .i64 k ∧ Hid (∀ j, j < k → (a.at (j : Nat)).isSome = true) ∧ wr = w) (fun iv _ => 600 - (intOf iv).toNat)
 case atStart => exact ⟨0, Nat.zero_le _, rfl, Lib.hid (fun j hj => absurd hj (Nat.not_lt_zero j)), rfl⟩
 case round =>
  obtain ⟨k, hk0, rfl, HA, rfl⟩ := hrel
  have K1 := Lib.hid (KA.out (k : Nat))
  by_cases hat : (a.at (k : Nat)).isSome = true
  ·have hkl := (at_some hat).2
   rw [show ((k : Nat) : Int).toNat = k by omega] at hkl
   rw [hat] at K1
   have HT := Lib.hid hat
   clear hat
   go_wp2_with fail
   refine K1.out.mono ?_
   rintro e w1 ⟨rfl, rfl⟩
   go_wp2_with fail
   go_roundw
   case rel => exact ⟨k + 1, by omega, by go_num, Lib.hid (fun j hj => by
    rcases Nat.lt_succ_iff_lt_or_eq.1 hj with h | rfl
    ·exact HA.out j h
    ·exact HT.out), trivial⟩
   case measure => simp [intOf]; omega
  ·have hat2 : (a.at (k : Nat)).isSome = false := by simpa using hat
   have hsk := slot_eq a k hk0 HA.out hat2
   have HR2 := HR.out
   rw [hsk] at HR2
   rw [hat2] at K1
   clear hat hat2 hsk
   by_cases h2 : 512 ≤ k
   ·rw [if_pos (.inl h2)] at HR2
    subst HR2
    have h2I : (512 : Int) ≤ (k : Int) := by omega
    go_wp2_with fail
    refine K1.out.mono ?_
    rintro e w1 ⟨rfl, rfl⟩
    go_wp2_with fail
    go_ret2
    exact ⟨by first | rfl | simp, .self HH.out (Only.refl _ _)⟩
   have h2I : ¬ (512 : Int) ≤ (k : Int) := by omega
   by_cases h3 : a.free = 0
   ·rw [if_pos (.inr h3)] at HR2
    subst HR2
    rw [h3] at KF
    go_wp2_with fail
    refine K1.out.mono ?_
    rintro e w1 ⟨rfl, rfl⟩
    go_wp2_with fail
    refine KF.out.mono ?_
    rintro e w1 ⟨rfl, m, rfl⟩
    go_wp2_with fail
    go_ret2
    exact ⟨by first | rfl | simp, .self (HH.out.below (Below_drewN (Below.refl _ _) m)) ((Only.refl _ _).drewN m)⟩
   rw [if_neg (by omega)] at HR2
   subst HR2
   have h3I : ¬ ((a.free : Nat) : Int) < 1 := by omega
   have KU := Lib.hid (fun W => rfull_any s hs W)
   have hln : (putS a.now k (some (true, padL s.data.toList 232))).length ≤ 512 := by unfold putS; split <;> simp <;> omega
   have KS := Lib.hid (fun (W : World) (hb : Below wr.heap.size wr W) => rset14_any (HH.out.below hb).hn ln k hk0 (some (true, padL s.data.toList 232)))
   unfold slV at KS
   rw [show (some (true, padL s.data.toList 232) : Sl14).isSome = true from rfl, show isFresh (some (true, padL s.data.toList 232)) = true from rfl, show bS (some (true, padL s.data.toList 232)) = ⟨(padL s.data.toList 232).toArray⟩ from rfl] at KS
   go_wp2_with fail
   refine K1.out.mono ?_
   rintro e w1 ⟨rfl, rfl⟩
   go_wp2_with fail
   refine KF.out.mono ?_
   rintro e w1 ⟨rfl, m, rfl⟩
   go_wp2_with fail
   have OD := Lib.hid (show Below wr.heap.size wr (wr.drewN m).drew from (Below_drewN (Below.refl _ _) m).drew)
   have GD := Lib.hid (HH.out.below OD.out).f1
   refine wp_region_held_drew (S := fun _ => True) (by kernel_rfl) (trivial) (fun hHeld => ?_)
   refine zpl [(0,22),(1,23),(2,24),(3,25),(5,27),(6,28)] ?_
   iterate 6 (refine ztp (v := ?_) rfl (by kernel_rfl) (fun _ _ _ h => h) (by assumption) ?_ ?_; rotate_left; (·intro w hS; (try dsimp only at hS); go_simp; try with_reducible rfl); try simp only [Act.put, pa, pb, pc])
   refine zpe ?_
   refine wpAnyH_ready (rs := [4, 7]) (by kernel_rfl) (by simp) ?_
   refine AllReadyH.cons (o := ⟨some 26, _, _, _, _, _⟩) rfl (fun K hK => ?_) (AllReadyH.cons (o := ⟨some 29, _, _, _, _, _⟩) rfl (fun K hK => ?_) AllReadyH.nil)
   ·skip
    go_simp
    have gd := HH.out.f1
    go_simp
    clear gd
    refine hK.out _ _ (trivial) (fun hHeld => ?_)
    try simp only [Act.put, pa, pb, pc]
    refine wpAnyH_ready (rs := [7]) (by kernel_rfl) (by simp) ?_
    refine AllReadyH.cons (o := ⟨some 29, _, _, _, _, _⟩) rfl (fun K hK => ?_) AllReadyH.nil
    go_simp
    go_at_call 43
    refine (KU.out _).mono ?_
    rintro e w5 ⟨rfl, hb5⟩
    have O5 := Lib.hid (bstep OD.out hb5)
    clear hb5
    go_simp
    refine hK.out _ _ (trivial) (fun hHeld => ?_)
    try simp only [Act.put, pa, pb, pc]
    refine zpl [(8,30)] ?_
    iterate 1 (refine ztp (v := ?_) rfl (by kernel_rfl) (fun _ _ _ h => h) (by assumption) ?_ ?_; rotate_left; (·intro w hS; (try dsimp only at hS); go_simp; try with_reducible rfl); try simp only [Act.put, pa, pb, pc])
    refine zpe ?_
    refine wpAnyH_ready (rs := [9]) (by kernel_rfl) (by simp) ?_
    refine AllReadyH.cons (o := ⟨some 31, _, _, _, _, _⟩) rfl (fun K hK => ?_) AllReadyH.nil
    go_simp
    go_at_call 140
    refine (KS.out _ O5.out).mono ?_
    rintro e w6 ⟨v6, rfl, S6, hb6, fr6⟩
    obtain ⟨V6, cc6, rfl⟩ := S6.val
    obtain ⟨c6, z6, R6⟩ := HH.out.setNow (bstep O5.out hb6) S6 (fun g hg => Nat.le_trans O5.out.size (fr6 g hg)) hln
    have R6 := Lib.hid R6
    clear S6 hb6 fr6
    go_simp
    refine hK.out _ _ (trivial) (fun hHeld => ?_)
    try simp only [Act.put, pa, pb, pc]
    refine zpl [(10,32),(11,33)] ?_
    iterate 2 (refine ztp (v := ?_) rfl (by kernel_rfl) (fun _ _ _ h => h) (by assumption) ?_ ?_; rotate_left; (·intro w hS; (try dsimp only at hS); go_simp; try with_reducible rfl); try simp only [Act.put, pa, pb, pc])
    refine zpe ?_
    refine wpAnyH_ready (rs := [12]) (by kernel_rfl) (by simp) ?_
    refine AllReadyH.cons (o := ⟨none, _, _, _, _, _⟩) rfl (fun K hK => ?_) AllReadyH.nil
    go_simp
    refine hK.out _ _ (trivial) (fun hHeld => ?_)
    try simp only [Act.put, pa, pb, pc]
    refine wpAnyH_done (by kernel_rfl) ?_ _
    go_wp2_with fail
    go_ret2
    exact ⟨by first | rfl | simp, R6.out⟩
   ·skip
    go_simp
    go_at_call 43
    refine (KU.out _).mono ?_
    rintro e w5 ⟨rfl, hb5⟩
    have O5 := Lib.hid (bstep OD.out hb5)
    clear hb5
    go_simp
    refine hK.out _ _ (trivial) (fun hHeld => ?_)
    try simp only [Act.put, pa, pb, pc]
    refine zpl [(8,30)] ?_
    iterate 1 (refine ztp (v := ?_) rfl (by kernel_rfl) (fun _ _ _ h => h) (by assumption) ?_ ?_; rotate_left; (·intro w hS; (try dsimp only at hS); go_simp; try with_reducible rfl); try simp only [Act.put, pa, pb, pc])
    refine zpe ?_
    refine wpAnyH_ready (rs := [4]) (by kernel_rfl) (by simp) ?_
    refine AllReadyH.cons (o := ⟨some 26, _, _, _, _, _⟩) rfl (fun K hK => ?_) AllReadyH.nil
    go_simp
    have gd := (HH.out.below O5.out).f1
    go_simp
    clear gd
    refine hK.out _ _ (trivial) (fun hHeld => ?_)
    try simp only [Act.put, pa, pb, pc]
    refine wpAnyH_ready (rs := [9]) (by kernel_rfl) (by simp) ?_
    refine AllReadyH.cons (o := ⟨some 31, _, _, _, _, _⟩) rfl (fun K hK => ?_) AllReadyH.nil
    go_simp
    go_at_call 140
    refine (KS.out _ O5.out).mono ?_
    rintro e w6 ⟨v6, rfl, S6, hb6, fr6⟩
    obtain ⟨V6, cc6, rfl⟩ := S6.val
    obtain ⟨c6, z6, R6⟩ := HH.out.setNow (bstep O5.out hb6) S6 (fun g hg => Nat.le_trans O5.out.size (fr6 g hg)) hln
    have R6 := Lib.hid R6
    clear S6 hb6 fr6
    go_simp
    refine hK.out _ _ (trivial) (fun hHeld => ?_)
    try simp only [Act.put, pa, pb, pc]
    refine zpl [(10,32),(11,33)] ?_
    iterate 2 (refine ztp (v := ?_) rfl (by kernel_rfl) (fun _ _ _ h => h) (by assumption) ?_ ?_; rotate_left; (·intro w hS; (try dsimp only at hS); go_simp; try with_reducible rfl); try simp only [Act.put, pa, pb, pc])
    refine zpe ?_
    refine wpAnyH_ready (rs := [12]) (by kernel_rfl) (by simp) ?_
    refine AllReadyH.cons (o := ⟨none, _, _, _, _, _⟩) rfl (fun K hK => ?_) AllReadyH.nil
    go_simp
    refine hK.out _ _ (trivial) (fun hHeld => ?_)
    try simp only [Act.put, pa, pb, pc]
    refine wpAnyH_done (by kernel_rfl) ?_ _
    go_wp2_with fail
    go_ret2
    exact ⟨by first | rfl | simp, R6.out⟩
set_option maxRecDepth 100000 in
set_option maxHeartbeats 2000000 in
theorem rwrite14_any {w : World} {b : Nat} {nv ov : Value} {a : St} (h : RAt w b nv ov a) (hk : a.fresh + a.kept ≤ a.many) (l : Int) (s : ByteArray) (hs : s.size ≤ 1000000) :
  Calls Tryz.prog 71 #[rp b, .int .i64 l, .string s] w fun e w' => e = .returned (.int .i64 (a.writeF l s.data.toList).2) ∧ RTo w w' b nv ov (a.writeF l s.data.toList).1 := by
 have HH := Lib.hid h
 have hsl : s.data.toList.length = s.size := by simp
 obtain ⟨R, hR⟩ : ∃ R, a.writeF l s.data.toList = R := ⟨_, rfl⟩
 rw [hR]
 unfold St.writeF at hR
 rw [hsl] at hR
 have ln := h.ln
 by_cases h1 : 232 < s.size
 ·rw [if_pos h1] at hR
  subst hR
  have h1I : (232 : Int) < (s.size : Int) := by omega
  clear h
  unfold rp at *
  go_enter Tryz.func71, Tryz.ntmps71
  go_wp2_with fail
  go_ret
  exact ⟨by first | rfl | simp, .self HH.out (Only.refl _ _)⟩
 rw [if_neg h1] at hR
 have h1I : ¬ (232 : Int) < (s.size : Int) := by omega
 have KF := Lib.hid (rfree_any h hk)
 have KA := Lib.hid (rat_any h l)
 by_cases h22 : (a.at l).isSome = false
 ·rw [if_pos (by simp [h22])] at hR
  subst hR
  rw [h22] at KA
  clear h h22 hsl
  unfold rp at *
  go_enter Tryz.func71, Tryz.ntmps71
  go_wp2_with fail
  refine KA.out.mono ?_
  rintro e w1 ⟨rfl, rfl⟩
  go_wp2_with fail
  go_ret
  exact ⟨by first | rfl | simp, .self HH.out (Only.refl _ _)⟩
 have h2 : (a.at l).isSome = true := by cases hb : (a.at l).isSome with | true => rfl | false => exact absurd hb h22
 rw [if_neg (by simp [h2])] at hR
 rw [h2] at KA
 obtain ⟨hl0, hl1⟩ := at_some h2
 obtain ⟨k, rfl⟩ := Int.eq_ofNat_of_zero_le hl0
 rw [show ((k : Nat) : Int).toNat = k by omega] at hl1 hR
 obtain ⟨x, hx⟩ : ∃ x, a.now[k]? = some x := ⟨_, List.getElem?_eq_getElem hl1⟩
 obtain ⟨g, cp, hv, c0, c1, _⟩ := h.hn.get k x hx
 have hax : a.at (k : Nat) = x := by unfold St.at; rw [if_pos (by omega), show ((k : Nat) : Int).toNat = k by omega, hx]; rfl
 rw [hax] at hR
 have f1 := h.f1
 have f1h := Lib.hid h.f1
 rw [hv] at f1
 have hkI : (k : Int) < (a.now.length : Int) := by omega
 have KU := Lib.hid (fun W => rfull_any s hs W)
 have hln : (a.now.set k (some (true, padL s.data.toList 232))).length ≤ 512 := by rw [List.length_set]; exact ln
 have KS := Lib.hid (fun (W : World) (hb : Below w.heap.size w W) => rset14_any (HH.out.below hb).hn ln k (by omega) (some (true, padL s.data.toList 232)))
 rw [show putS a.now k (some (true, padL s.data.toList 232)) = a.now.set k (some (true, padL s.data.toList 232)) from by unfold putS; rw [if_neg (by omega)]] at KS
 unfold slV at KS
 rw [show (some (true, padL s.data.toList 232) : Sl14).isSome = true from rfl, show isFresh (some (true, padL s.data.toList 232)) = true from rfl, show bS (some (true, padL s.data.toList 232)) = ⟨(padL s.data.toList 232).toArray⟩ from rfl] at KS
 generalize a.now.set k (some (true, padL s.data.toList 232)) = NL at *
 have HV := Lib.hid hv
 clear h h2 h22 hsl hax hx hv
 generalize a.now.length = nl at *
 unfold rp at *
 have hcs : (isFresh x = true) ∨ (isFresh x = false ∧ a.free = 0) ∨ (isFresh x = false ∧ 1 ≤ a.free) := by cases isFresh x <;> simp <;> omega
 rcases hcs with hf | ⟨hf, hz⟩ | ⟨hf, hz⟩
 ·rw [hf, if_neg (by simp)] at hR
  subst hR
  rw [hf] at c1
  clear hf
  go_enter Tryz.func71, Tryz.ntmps71
  go_wp2_with fail
  refine KA.out.mono ?_
  rintro e w1 ⟨rfl, rfl⟩
  go_wp2_with fail
  have OD := Lib.hid (show Below w.heap.size w w.drew from (Below.refl _ _).drew)
  have GD := Lib.hid (HH.out.below OD.out).f1
  clear f1
  refine wp_region_held_drew (S := fun _ => True) (by kernel_rfl) (trivial) (fun hHeld => ?_)
  refine zpl [(0,28),(1,29),(2,30),(3,31),(5,33),(6,34)] ?_
  iterate 6 (refine ztp (v := ?_) rfl (by kernel_rfl) (fun _ _ _ h => h) (by assumption) ?_ ?_; rotate_left; (·intro w hS; (try dsimp only at hS); go_simp; try with_reducible rfl); try simp only [Act.put, pa, pb, pc])
  refine zpe ?_
  refine wpAnyH_ready (rs := [4, 7]) (by kernel_rfl) (by simp) ?_
  refine AllReadyH.cons (o := ⟨some 32, _, _, _, _, _⟩) rfl (fun K hK => ?_) (AllReadyH.cons (o := ⟨some 35, _, _, _, _, _⟩) rfl (fun K hK => ?_) AllReadyH.nil)
  ·skip
   go_simp
   have gd := HH.out.f1
   go_simp
   clear gd
   refine hK.out _ _ (trivial) (fun hHeld => ?_)
   try simp only [Act.put, pa, pb, pc]
   refine wpAnyH_ready (rs := [7]) (by kernel_rfl) (by simp) ?_
   refine AllReadyH.cons (o := ⟨some 35, _, _, _, _, _⟩) rfl (fun K hK => ?_) AllReadyH.nil
   go_simp
   go_at_call 43
   refine (KU.out _).mono ?_
   rintro e w5 ⟨rfl, hb5⟩
   have O5 := Lib.hid (bstep OD.out hb5)
   clear hb5
   go_simp
   refine hK.out _ _ (trivial) (fun hHeld => ?_)
   try simp only [Act.put, pa, pb, pc]
   refine zpl [(8,36)] ?_
   iterate 1 (refine ztp (v := ?_) rfl (by kernel_rfl) (fun _ _ _ h => h) (by assumption) ?_ ?_; rotate_left; (·intro w hS; (try dsimp only at hS); go_simp; try with_reducible rfl); try simp only [Act.put, pa, pb, pc])
   refine zpe ?_
   refine wpAnyH_ready (rs := [9]) (by kernel_rfl) (by simp) ?_
   refine AllReadyH.cons (o := ⟨some 37, _, _, _, _, _⟩) rfl (fun K hK => ?_) AllReadyH.nil
   go_simp
   go_at_call 140
   refine (KS.out _ O5.out).mono ?_
   rintro e w6 ⟨v6, rfl, S6, hb6, fr6⟩
   obtain ⟨V6, cc6, rfl⟩ := S6.val
   obtain ⟨c6, z6, R6⟩ := HH.out.setNow (bstep O5.out hb6) S6 (fun g hg => Nat.le_trans O5.out.size (fr6 g hg)) hln
   have R6 := Lib.hid R6
   clear S6 hb6 fr6
   go_simp
   refine hK.out _ _ (trivial) (fun hHeld => ?_)
   try simp only [Act.put, pa, pb, pc]
   refine zpl [(10,38),(11,39)] ?_
   iterate 2 (refine ztp (v := ?_) rfl (by kernel_rfl) (fun _ _ _ h => h) (by assumption) ?_ ?_; rotate_left; (·intro w hS; (try dsimp only at hS); go_simp; try with_reducible rfl); try simp only [Act.put, pa, pb, pc])
   refine zpe ?_
   refine wpAnyH_ready (rs := [12]) (by kernel_rfl) (by simp) ?_
   refine AllReadyH.cons (o := ⟨none, _, _, _, _, _⟩) rfl (fun K hK => ?_) AllReadyH.nil
   go_simp
   refine hK.out _ _ (trivial) (fun hHeld => ?_)
   try simp only [Act.put, pa, pb, pc]
   refine wpAnyH_done (by kernel_rfl) ?_ _
   go_wp2_with fail
   go_ret
   exact ⟨by first | rfl | simp, R6.out⟩
  ·skip
   go_simp
   go_at_call 43
   refine (KU.out _).mono ?_
   rintro e w5 ⟨rfl, hb5⟩
   have O5 := Lib.hid (bstep OD.out hb5)
   clear hb5
   go_simp
   refine hK.out _ _ (trivial) (fun hHeld => ?_)
   try simp only [Act.put, pa, pb, pc]
   refine zpl [(8,36)] ?_
   iterate 1 (refine ztp (v := ?_) rfl (by kernel_rfl) (fun _ _ _ h => h) (by assumption) ?_ ?_; rotate_left; (·intro w hS; (try dsimp only at hS); go_simp; try with_reducible rfl); try simp only [Act.put, pa, pb, pc])
   refine zpe ?_
   refine wpAnyH_ready (rs := [4]) (by kernel_rfl) (by simp) ?_
   refine AllReadyH.cons (o := ⟨some 32, _, _, _, _, _⟩) rfl (fun K hK => ?_) AllReadyH.nil
   go_simp
   have gd := (HH.out.below O5.out).f1
   go_simp
   clear gd
   refine hK.out _ _ (trivial) (fun hHeld => ?_)
   try simp only [Act.put, pa, pb, pc]
   refine wpAnyH_ready (rs := [9]) (by kernel_rfl) (by simp) ?_
   refine AllReadyH.cons (o := ⟨some 37, _, _, _, _, _⟩) rfl (fun K hK => ?_) AllReadyH.nil
   go_simp
   go_at_call 140
   refine (KS.out _ O5.out).mono ?_
   rintro e w6 ⟨v6, rfl, S6, hb6, fr6⟩
   obtain ⟨V6, cc6, rfl⟩ := S6.val
   obtain ⟨c6, z6, R6⟩ := HH.out.setNow (bstep O5.out hb6) S6 (fun g hg => Nat.le_trans O5.out.size (fr6 g hg)) hln
   have R6 := Lib.hid R6
   clear S6 hb6 fr6
   go_simp
   refine hK.out _ _ (trivial) (fun hHeld => ?_)
   try simp only [Act.put, pa, pb, pc]
   refine zpl [(10,38),(11,39)] ?_
   iterate 2 (refine ztp (v := ?_) rfl (by kernel_rfl) (fun _ _ _ h => h) (by assumption) ?_ ?_; rotate_left; (·intro w hS; (try dsimp only at hS); go_simp; try with_reducible rfl); try simp only [Act.put, pa, pb, pc])
   refine zpe ?_
   refine wpAnyH_ready (rs := [12]) (by kernel_rfl) (by simp) ?_
   refine AllReadyH.cons (o := ⟨none, _, _, _, _, _⟩) rfl (fun K hK => ?_) AllReadyH.nil
   go_simp
   refine hK.out _ _ (trivial) (fun hHeld => ?_)
   try simp only [Act.put, pa, pb, pc]
   refine wpAnyH_done (by kernel_rfl) ?_ _
   go_wp2_with fail
   go_ret
   exact ⟨by first | rfl | simp, R6.out⟩
 ·rw [hf, hz, if_pos (by simp)] at hR
  subst hR
  rw [hf] at c1
  rw [hz] at KF
  clear hf hz
  go_enter Tryz.func71, Tryz.ntmps71
  go_wp2_with fail
  refine KA.out.mono ?_
  rintro e w1 ⟨rfl, rfl⟩
  go_wp2_with fail
  refine KF.out.mono ?_
  rintro e w1 ⟨rfl, m, rfl⟩
  go_wp2_with fail
  go_ret
  exact ⟨by first | rfl | simp, .self (HH.out.below (Below_drewN (Below.refl _ _) m)) ((Only.refl _ _).drewN m)⟩
 ·rw [hf, if_neg (by simp; omega)] at hR
  subst hR
  rw [hf] at c1
  have h3I : ¬ ((a.free : Nat) : Int) < 1 := by omega
  clear hf
  go_enter Tryz.func71, Tryz.ntmps71
  go_wp2_with fail
  refine KA.out.mono ?_
  rintro e w1 ⟨rfl, rfl⟩
  go_wp2_with fail
  refine KF.out.mono ?_
  rintro e w1 ⟨rfl, m, rfl⟩
  go_wp2_with fail
  have OD := Lib.hid (show Below w.heap.size w (w.drewN m).drew from (Below_drewN (Below.refl _ _) m).drew)
  have GD := Lib.hid (HH.out.below OD.out).f1
  clear f1
  refine wp_region_held_drew (S := fun _ => True) (by kernel_rfl) (trivial) (fun hHeld => ?_)
  refine zpl [(0,28),(1,29),(2,30),(3,31),(5,33),(6,34)] ?_
  iterate 6 (refine ztp (v := ?_) rfl (by kernel_rfl) (fun _ _ _ h => h) (by assumption) ?_ ?_; rotate_left; (·intro w hS; (try dsimp only at hS); go_simp; try with_reducible rfl); try simp only [Act.put, pa, pb, pc])
  refine zpe ?_
  refine wpAnyH_ready (rs := [4, 7]) (by kernel_rfl) (by simp) ?_
  refine AllReadyH.cons (o := ⟨some 32, _, _, _, _, _⟩) rfl (fun K hK => ?_) (AllReadyH.cons (o := ⟨some 35, _, _, _, _, _⟩) rfl (fun K hK => ?_) AllReadyH.nil)
  ·skip
   go_simp
   have gd := HH.out.f1
   go_simp
   clear gd
   refine hK.out _ _ (trivial) (fun hHeld => ?_)
   try simp only [Act.put, pa, pb, pc]
   refine wpAnyH_ready (rs := [7]) (by kernel_rfl) (by simp) ?_
   refine AllReadyH.cons (o := ⟨some 35, _, _, _, _, _⟩) rfl (fun K hK => ?_) AllReadyH.nil
   go_simp
   go_at_call 43
   refine (KU.out _).mono ?_
   rintro e w5 ⟨rfl, hb5⟩
   have O5 := Lib.hid (bstep OD.out hb5)
   clear hb5
   go_simp
   refine hK.out _ _ (trivial) (fun hHeld => ?_)
   try simp only [Act.put, pa, pb, pc]
   refine zpl [(8,36)] ?_
   iterate 1 (refine ztp (v := ?_) rfl (by kernel_rfl) (fun _ _ _ h => h) (by assumption) ?_ ?_; rotate_left; (·intro w hS; (try dsimp only at hS); go_simp; try with_reducible rfl); try simp only [Act.put, pa, pb, pc])
   refine zpe ?_
   refine wpAnyH_ready (rs := [9]) (by kernel_rfl) (by simp) ?_
   refine AllReadyH.cons (o := ⟨some 37, _, _, _, _, _⟩) rfl (fun K hK => ?_) AllReadyH.nil
   go_simp
   go_at_call 140
   refine (KS.out _ O5.out).mono ?_
   rintro e w6 ⟨v6, rfl, S6, hb6, fr6⟩
   obtain ⟨V6, cc6, rfl⟩ := S6.val
   obtain ⟨c6, z6, R6⟩ := HH.out.setNow (bstep O5.out hb6) S6 (fun g hg => Nat.le_trans O5.out.size (fr6 g hg)) hln
   have R6 := Lib.hid R6
   clear S6 hb6 fr6
   go_simp
   refine hK.out _ _ (trivial) (fun hHeld => ?_)
   try simp only [Act.put, pa, pb, pc]
   refine zpl [(10,38),(11,39)] ?_
   iterate 2 (refine ztp (v := ?_) rfl (by kernel_rfl) (fun _ _ _ h => h) (by assumption) ?_ ?_; rotate_left; (·intro w hS; (try dsimp only at hS); go_simp; try with_reducible rfl); try simp only [Act.put, pa, pb, pc])
   refine zpe ?_
   refine wpAnyH_ready (rs := [12]) (by kernel_rfl) (by simp) ?_
   refine AllReadyH.cons (o := ⟨none, _, _, _, _, _⟩) rfl (fun K hK => ?_) AllReadyH.nil
   go_simp
   refine hK.out _ _ (trivial) (fun hHeld => ?_)
   try simp only [Act.put, pa, pb, pc]
   refine wpAnyH_done (by kernel_rfl) ?_ _
   go_wp2_with fail
   go_ret
   exact ⟨by first | rfl | simp, R6.out⟩
  ·skip
   go_simp
   go_at_call 43
   refine (KU.out _).mono ?_
   rintro e w5 ⟨rfl, hb5⟩
   have O5 := Lib.hid (bstep OD.out hb5)
   clear hb5
   go_simp
   refine hK.out _ _ (trivial) (fun hHeld => ?_)
   try simp only [Act.put, pa, pb, pc]
   refine zpl [(8,36)] ?_
   iterate 1 (refine ztp (v := ?_) rfl (by kernel_rfl) (fun _ _ _ h => h) (by assumption) ?_ ?_; rotate_left; (·intro w hS; (try dsimp only at hS); go_simp; try with_reducible rfl); try simp only [Act.put, pa, pb, pc])
   refine zpe ?_
   refine wpAnyH_ready (rs := [4]) (by kernel_rfl) (by simp) ?_
   refine AllReadyH.cons (o := ⟨some 32, _, _, _, _, _⟩) rfl (fun K hK => ?_) AllReadyH.nil
   go_simp
   have gd := (HH.out.below O5.out).f1
   go_simp
   clear gd
   refine hK.out _ _ (trivial) (fun hHeld => ?_)
   try simp only [Act.put, pa, pb, pc]
   refine wpAnyH_ready (rs := [9]) (by kernel_rfl) (by simp) ?_
   refine AllReadyH.cons (o := ⟨some 37, _, _, _, _, _⟩) rfl (fun K hK => ?_) AllReadyH.nil
   go_simp
   go_at_call 140
   refine (KS.out _ O5.out).mono ?_
   rintro e w6 ⟨v6, rfl, S6, hb6, fr6⟩
   obtain ⟨V6, cc6, rfl⟩ := S6.val
   obtain ⟨c6, z6, R6⟩ := HH.out.setNow (bstep O5.out hb6) S6 (fun g hg => Nat.le_trans O5.out.size (fr6 g hg)) hln
   have R6 := Lib.hid R6
   clear S6 hb6 fr6
   go_simp
   refine hK.out _ _ (trivial) (fun hHeld => ?_)
   try simp only [Act.put, pa, pb, pc]
   refine zpl [(10,38),(11,39)] ?_
   iterate 2 (refine ztp (v := ?_) rfl (by kernel_rfl) (fun _ _ _ h => h) (by assumption) ?_ ?_; rotate_left; (·intro w hS; (try dsimp only at hS); go_simp; try with_reducible rfl); try simp only [Act.put, pa, pb, pc])
   refine zpe ?_
   refine wpAnyH_ready (rs := [12]) (by kernel_rfl) (by simp) ?_
   refine AllReadyH.cons (o := ⟨none, _, _, _, _, _⟩) rfl (fun K hK => ?_) AllReadyH.nil
   go_simp
   refine hK.out _ _ (trivial) (fun hHeld => ?_)
   try simp only [Act.put, pa, pb, pc]
   refine wpAnyH_done (by kernel_rfl) ?_ _
   go_wp2_with fail
   go_ret
   exact ⟨by first | rfl | simp, R6.out⟩
end Go.Proofs.YtbelcgjbhpjnpaaGreat.Sh
