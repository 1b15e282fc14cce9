/- shadow's laws: Once. -/
import Derived.Test.YtbelcgjbhpjnpaaGreatU1
import Derived.Deep.Cut
import Derived.Deep.CutRange
set_option linter.all false
set_option linter.unusedVariables false
set_option linter.unusedSimpArgs false
namespace Go.Proofs.YtbelcgjbhpjnpaaGreat.Sh
open Go.RowKit Pk Dk Pg
attribute [local go_sem ↓] Go.wp_at_zero Go.wp_at_succ
set_option maxRecDepth 100000 in
set_option maxHeartbeats 4000000 in
theorem shadowOnce_any {w : World} (A : Option Addr) (m cc : Nat) (F : Nat → Sa) (hm : m ≤ 9223372036854775807) (hA : SActs w A m F) :
  Calls Tryz.prog 5 #[.slice A m cc] w fun e w' => e = .returned (.bool true) ∧ Below w.heap.size w w' := by
 have KB := Lib.hid (show Calls Tryz.prog 13 #[.int .i64 12] w fun e w' => ∃ x rb c, e = .returned (.tuple #[dp x.L.b, sp x.b, rp rb]) ∧ LS w w' x rb 50 c (St.start 12) 0 1 true from begun14_any w 12 (by omega) (by omega))
 have KA := Lib.hid awake14
 have HA := Lib.hid (fun (W : World) (hb : Below w.heap.size w W) => hA.below hb)
 have KS := Lib.hid short14_any
 have KD := Lib.hid (fun (W : World) (L : Dk.Loc) (b rb K : Nat) (h : LL w W L b rb 50 K) (kd l : Int) (s : ByteArray) (hs : s.size ≤ 1000000) (hK : K ≤ 999) => h.do_ kd l s hs hK)
 have KBY := Lib.hid (fun (W : World) (L : Dk.Loc) (d : Dk.D) (hd : DiskAt W L 50 d) (hdn : d.down = false) (id : Nat) (h : id < manyF 50) => bytes14_any hd hdn id h)
 have KON := Lib.hid (fun (W : World) (L : Dk.Loc) (b rb K : Nat) (h : LL w W L b rb 50 K) (hK : K ≤ 999) => h.once hK)
 clear hA
 unfold dp sp rp at *
 go_enter Tryz.func5, Tryz.ntmps5
 go_wp2_with fail
 refine KB.out.mono ?_
 rintro e w1 ⟨x, rb, c, rfl, S1⟩
 obtain ⟨L, hL⟩ : ∃ L, x.L = L := ⟨_, rfl⟩
 obtain ⟨b, hb⟩ : ∃ b, x.b = b := ⟨_, rfl⟩
 have H1 := Lib.hid (show LL w w1 L b rb 50 1 from ⟨x, c, _, _, hL, hb, S1⟩)
 rw [hL, hb]
 clear S1 hL hb
 go_wp2_with fail
 refine (KA.out w1).mono ?_
 rintro e w2 ⟨rfl, hb2⟩
 have H2 := Lib.hid (H1.out.below hb2)
 clear hb2
 go_wp2_with fail
 go_loopw [4, 6] (fun sv iv wr => ∃ (i : Nat) (b' : Nat), i ≤ 40 ∧ iv = .int .i64 i ∧ sv = .pointer (some ⟨b', 0, none⟩) ∧ Hid (LL w wr L b' rb 50 (i + 1))) (fun _ iv _ => 40 - (intOf iv).toNat)
 case atStart => exact ⟨0, b, Nat.zero_le _, rfl, rfl, H2⟩
 case round =>
  obtain ⟨i, b', hi, rfl, rfl, H⟩ := hrel
  by_cases h1 : i < m
  ·have h1I : (i : Int) < (m : Int) := by omega
   by_cases h2 : i < 40
   ·have h2I : (i : Int) < 40 := by omega
    obtain ⟨ad, rfl, hSa⟩ := HA.out wr H.out.b0 i h1
    obtain ⟨c0, c1, c2⟩ := hSa
    have HC := Lib.hid (show ∀ W, Below w.heap.size w W → SaAt W (ad.add (i * 3)) (F i) from fun W hb => by
     obtain ⟨ad', e, h⟩ := HA.out W hb i h1
     injection e with e
     rw [e]; exact h)
    generalize F i = sa at c0 c1 c2 HC
    obtain ⟨kd, l, s⟩ := sa
    dsimp only at c0 c1 c2
    have KS2 := Lib.hid (fun (W : World) => KS.out kd l s W _ rfl)
    have ei : IntKind.i64.wrap ((i : Int) + 1) = ((i + 1 : Nat) : Int) := IntWalk.i64_in _ (by omega)
    obtain ⟨bb, hbb⟩ : ∃ bb, decide (s.size < 500) = bb := ⟨_, rfl⟩
    rw [hbb] at KS2
    have HBB := Lib.hid hbb
    clear hbb
    go_wp2_with fail
    refine (KS2.out _).mono ?_
    rintro e w3 ⟨rfl, hb3⟩
    have H3 := Lib.hid (H.out.below hb3)
    obtain ⟨d0, d1, d2⟩ := HC.out w3 H3.out.b0
    dsimp only at d0 d1 d2
    clear hb3 c0 c1 c2
    go_upto_if 40 with (fail)
    go_cut [4] from 41 to 51 (fun s4 wx => ∃ b2 : Nat, s4 = .pointer (some ⟨b2, 0, none⟩) ∧ Hid (LL w wx L b2 rb 50 (i + 1 + 1)))
    case first =>
     cases bb
     ·go_wp2_with fail
      go_meet
      exact ⟨b', rfl, Lib.hid H3.out.more⟩
     ·go_wp2_with fail
      refine (KD.out w3 L b' rb (i + 1) H3.out kd l s (by have := of_decide_eq_true HBB.out; omega) (by omega)).mono ?_
      rintro e w4 ⟨b2, rfl, h4⟩
      have H4 := Lib.hid h4
      clear h4 d0 d1 d2
      go_wp2_with fail
      go_meet
      exact ⟨b2, rfl, H4⟩
    case rest =>
     obtain ⟨b2, rfl, H4⟩ := hcut
     clear d0 d1 d2
     obtain ⟨f, u, fr, le, R, ep, d, hs1, hs2, hs3, hR, hO, hdn, hep, HW⟩ := KON.out wc L b2 rb _ H4.out (by omega)
     have HR := Lib.hid hR
     have HOR := Lib.hid hO
     have HW := Lib.hid HW
     have HDN := Lib.hid hdn
     have HLL := Lib.hid (fun (W : World) (hW : Below wc.heap.size wc W) => H4.out.below hW)
     have hs1 : f + u + fr + le = 12 := hs1
     obtain ⟨m2, hm2⟩ : ∃ m2, R.length = m2 := ⟨_, rfl⟩
     obtain ⟨g1, hg1⟩ : ∃ g, f + u = g := ⟨_, rfl⟩
     obtain ⟨g2, hg2⟩ : ∃ g, f + u + fr = g := ⟨_, rfl⟩
     have e7 : IntKind.i64.wrap ((f : Int) + (u : Int)) = (g1 : Int) := by rw [show (f : Int) + (u : Int) = (g1 : Int) by omega]; exact IntWalk.i64_in _ (by omega)
     have e8 : IntKind.i64.wrap ((g1 : Int) + (fr : Int)) = (g2 : Int) := by rw [show (g1 : Int) + (fr : Int) = (g2 : Int) by omega]; exact IntWalk.i64_in _ (by omega)
     have e9 : IntKind.i64.wrap ((g2 : Int) + (le : Int)) = 12 := by rw [show (g2 : Int) + (le : Int) = 12 by omega]; rfl
     have e10 : IntKind.i64.wrap ((u : Int) + (le : Int)) = (m2 : Int) := by rw [show (u : Int) + (le : Int) = (m2 : Int) by omega]; exact IntWalk.i64_in _ (by omega)
     have HM2 := Lib.hid hm2
     have hm3 : m2 ≤ 1000 := by omega
     rw [hm2] at HW
     have KC4 := Lib.hid (HW.out wc (Below.refl _ _)).2.1
     clear hR hO hdn hs1 hs2 hs3 hm2 hg1 hg2
     unfold sp at *
     go_wp2_with fail
     refine KC4.out.mono ?_
     rintro e w5 ⟨rfl, hb5⟩
     have O5 := Lib.hid hb5
     have KR5 := Lib.hid (HW.out w5 O5.out).2.2.1
     clear hb5 KC4
     go_wp2_with fail
     refine KR5.out.mono ?_
     rintro e w6 ⟨v6, rfl, S6, hb6⟩
     have O6 := Lib.hid (bstep O5.out hb6)
     obtain ⟨VA, vc, rfl, _⟩ := S6.val
     have HI := Lib.hid (fun (W : World) (hW : Below w6.heap.size w6 W) => ints_sl (S6.below hW))
     clear S6 hb6 KR5
     go_wp2_with fail
     go_loopw [12] (fun kv wr => ∃ k : Nat, k ≤ m2 ∧ kv = .int .i64 k ∧ Hid (Below w6.heap.size w6 wr)) (fun kv _ => m2 - (intOf kv).toNat)
     case atStart => exact ⟨0, Nat.zero_le _, rfl, Lib.hid (Below.refl _ _)⟩
     case round =>
      obtain ⟨k, hk, rfl, O⟩ := hrel
      by_cases hkm : k < m2
      ·have hkI : (k : Int) < (m2 : Int) := by omega
       obtain ⟨x, hx⟩ : ∃ x, R[k]? = some x := ⟨_, List.getElem?_eq_getElem (by rw [HM2.out]; exact hkm)⟩
       obtain ⟨p1, p2, q, kq, sq, p3, p4, _⟩ := HR.out k x hx
       obtain ⟨xn, rfl⟩ := Int.eq_ofNat_of_zero_le p1
       obtain ⟨ad2, rfl, hc⟩ := HI.out wr O.out k _ hx
       have HX := Lib.hid (fun (W : World) (hW : Below w6.heap.size w6 W) => (show W.cell? (ad2.add k) = some (.int .i64 (xn : Nat)) from by
        obtain ⟨a, e, h⟩ := HI.out W hW k _ hx
        injection e with e
        rw [e]; exact h))
       have p5 : (xn : Int) < 12 := p2
       rw [show ((xn : Nat) : Int).toNat = xn from by omega] at p3
       have KB8 := Lib.hid (KBY.out wr L d (HW.out wr (bstep O6.out O.out)).1 HDN.out xn (by omega))
       have KG8 := Lib.hid (fun (W : World) => by
        have h := Pg.rget_any (w := W) ⟨((d.now.drop (64 * (2 + 4 * xn))).take 256).toArray⟩
        have p3' : gotF (⟨((d.now.drop (64 * (2 + 4 * xn))).take 256).toArray⟩ : ByteArray).data.toList = (⟨(xn : Nat), q, kq, sq⟩, 0) := p3
        rw [p3'] at h
        exact h)
       have ek : IntKind.i64.wrap ((k : Int) + 1) = ((k + 1 : Nat) : Int) := IntWalk.i64_in _ (by omega)
       have x0 : decide ((xn : Int) < 0) = false := by rw [decide_eq_false_iff_not]; omega
       have x1 : decide ((11 : Int) < (xn : Int)) = false := by rw [decide_eq_false_iff_not]; omega
       have x2 : decide (11 < xn) = false := by rw [decide_eq_false_iff_not]; omega
       have hq : ¬ ep < q := by omega
       generalize (⟨((d.now.drop (64 * (2 + 4 * xn))).take 256).toArray⟩ : ByteArray) = BB at KB8 KG8
       unfold PG.val pageV at KG8
       dsimp only at KG8
       generalize (⟨sq.toArray⟩ : ByteArray) = SS at KG8
       clear p1 p2 p3 p4
       go_wp2_with fail
       refine KB8.out.mono ?_
       rintro e wy ⟨rfl, rfl⟩
       go_wp2_with fail
       refine (KG8.out _).mono ?_
       rintro e w8 ⟨rfl, hb8⟩
       have O8 := Lib.hid (bstep O.out hb8)
       clear hb8 hc
       go_wp2_with fail
       obtain ⟨pb, hpb⟩ : ∃ p, w8.heap.size = p := ⟨_, rfl⟩
       have B9 := Blk.new w8 55 #[.int .i64 (xn : Nat), .int .i64 q, .int .i64 kq, .string SS]
       have b9 := Rt.belowAlloc (Below.refl w8.heap.size w8) (.cells #[.int .i64 (xn : Nat), .int .i64 q, .int .i64 kq, .string SS] 55)
       generalize hw9 : w8.alloc (.cells #[.int .i64 (xn : Nat), .int .i64 q, .int .i64 kq, .string SS] 55) = w9 at *
       clear hw9
       rw [hpb] at B9 ⊢
       have ON := Lib.hid (bstep O8.out b9).drew
       have P9 := Lib.hid (fun (W : World) (hW : Below w9.heap.size w9 W) => (show W.cell? ⟨pb, 0, none⟩ = some (.int .i64 (xn : Nat)) ∧ W.cell? ⟨pb, 1, none⟩ = some (.int .i64 q) from ⟨(Blk.below B9 hW B9.lt).cell_some (i := 0) rfl, (Blk.below B9 hW B9.lt).cell_some (i := 1) rfl⟩))
       have D9 := Lib.hid (Below.refl w9.heap.size w9).drew
       have X9 := Lib.hid (HX.out w9.drew ON.out)
       have KE8 := Lib.hid (HW.out w9.drew (bstep O6.out ON.out)).2.2.2
       by_cases hk0 : k = 0
       ·subst hk0
        have OS := Lib.hid (show (fun W' => W'.cell? ad2 = some (.int .i64 (xn : Nat)) ∧ W'.cell? ⟨pb, 0, none⟩ = some (.int .i64 (xn : Nat)) ∧ W'.cell? ⟨pb, 1, none⟩ = some (.int .i64 q)) w9.drew from ⟨by have h := X9.out; rwa [add_zero''] at h, P9.out _ D9.out⟩)
        clear b9 B9 hpb
        refine wp_region_held_drew (S := fun W' => W'.cell? ad2 = some (.int .i64 (xn : Nat)) ∧ W'.cell? ⟨pb, 0, none⟩ = some (.int .i64 (xn : Nat)) ∧ W'.cell? ⟨pb, 1, none⟩ = some (.int .i64 q)) (by kernel_rfl) (OS.out) (fun hHeld => ?_)
        refine tkf (i := 0) (oi := ⟨some 93, _, _, _, _, _⟩) (v := ?_) rfl (by kernel_rfl) (fun _ _ _ h => h) (by assumption) ?_ ?_
        rotate_left
        ·(intro w hS; (try dsimp only at hS); go_simp; try with_reducible rfl)
        try simp only [Act.put, pa, pb, pc]
        refine tkf (i := 1) (oi := ⟨some 94, _, _, _, _, _⟩) (v := ?_) rfl (by kernel_rfl) (fun _ _ _ h => h) (by assumption) ?_ ?_
        rotate_left
        ·(intro w hS; (try dsimp only at hS); go_simp; try with_reducible rfl)
        try simp only [Act.put, pa, pb, pc]
        refine tkf (i := 2) (oi := ⟨some 95, _, _, _, _, _⟩) (v := ?_) rfl (by kernel_rfl) (fun _ _ _ h => h) (by assumption) ?_ ?_
        rotate_left
        ·(intro w hS; (try dsimp only at hS); go_simp; try with_reducible rfl)
        try simp only [Act.put, pa, pb, pc]
        refine tkf (i := 3) (oi := ⟨some 96, _, _, _, _, _⟩) (v := ?_) rfl (by kernel_rfl) (fun _ _ _ h => h) (by assumption) ?_ ?_
        rotate_left
        ·(intro w hS; (try dsimp only at hS); go_simp; try with_reducible rfl)
        try simp only [Act.put, pa, pb, pc]
        refine tkf (i := 4) (oi := ⟨some 97, _, _, _, _, _⟩) (v := ?_) rfl (by kernel_rfl) (fun _ _ _ h => h) (by assumption) ?_ ?_
        rotate_left
        ·(intro w hS; (try dsimp only at hS); go_simp; try with_reducible rfl)
        try simp only [Act.put, pa, pb, pc]
        refine tkf (i := 5) (oi := ⟨some 98, _, _, _, _, _⟩) (v := ?_) rfl (by kernel_rfl) (fun _ _ _ h => h) (by assumption) ?_ ?_
        rotate_left
        ·(intro w hS; (try dsimp only at hS); go_simp; try with_reducible rfl)
        try simp only [Act.put, pa, pb, pc]
        refine tkf (i := 6) (oi := ⟨some 99, _, _, _, _, _⟩) (v := ?_) rfl (by kernel_rfl) (fun _ _ _ h => h) (by assumption) ?_ ?_
        rotate_left
        ·(intro w hS; (try dsimp only at hS); go_simp; try with_reducible rfl)
        try simp only [Act.put, pa, pb, pc]
        refine tkf (i := 7) (oi := ⟨some 100, _, _, _, _, _⟩) (v := ?_) rfl (by kernel_rfl) (fun _ _ _ h => h) (by assumption) ?_ ?_
        rotate_left
        ·(intro w hS; (try dsimp only at hS); go_simp; try with_reducible rfl)
        try simp only [Act.put, pa, pb, pc]
        refine tkf (i := 8) (oi := ⟨some 101, _, _, _, _, _⟩) (v := ?_) rfl (by kernel_rfl) (fun _ _ _ h => h) (by assumption) ?_ ?_
        rotate_left
        ·(intro w hS; (try dsimp only at hS); go_simp; try with_reducible rfl)
        try simp only [Act.put, pa, pb, pc]
        refine tkf (i := 9) (oi := ⟨some 102, _, _, _, _, _⟩) (v := ?_) rfl (by kernel_rfl) (fun _ _ _ h => h) (by assumption) ?_ ?_
        rotate_left
        ·(intro w hS; (try dsimp only at hS); go_simp; try with_reducible rfl)
        try simp only [Act.put, pa, pb, pc]
        refine tkf (i := 10) (oi := ⟨some 103, _, _, _, _, _⟩) (v := ?_) rfl (by kernel_rfl) (fun _ _ _ h => h) (by assumption) ?_ ?_
        rotate_left
        ·(intro w hS; (try dsimp only at hS); go_simp; try with_reducible rfl)
        try simp only [Act.put, pa, pb, pc]
        refine tkf (i := 11) (oi := ⟨some 104, _, _, _, _, _⟩) (v := ?_) rfl (by kernel_rfl) (fun _ _ _ h => h) (by assumption) ?_ ?_
        rotate_left
        ·(intro w hS; (try dsimp only at hS); go_simp; try with_reducible rfl)
        try simp only [Act.put, pa, pb, pc]
        refine tkf (i := 12) (oi := ⟨some 105, _, _, _, _, _⟩) (v := ?_) rfl (by kernel_rfl) (fun _ _ _ h => h) (by assumption) ?_ ?_
        rotate_left
        ·(intro w hS; (try dsimp only at hS); go_simp; try with_reducible rfl)
        try simp only [Act.put, pa, pb, pc]
        refine tkf (i := 13) (oi := ⟨some 106, _, _, _, _, _⟩) (v := ?_) rfl (by kernel_rfl) (fun _ _ _ h => h) (by assumption) ?_ ?_
        rotate_left
        ·(intro w hS; (try dsimp only at hS); go_simp; try with_reducible rfl)
        try simp only [Act.put, pa, pb, pc]
        refine tkf (i := 14) (oi := ⟨some 107, _, _, _, _, _⟩) (v := ?_) rfl (by kernel_rfl) (fun _ _ _ h => h) (by assumption) ?_ ?_
        rotate_left
        ·(intro w hS; (try dsimp only at hS); go_simp; try with_reducible rfl)
        try simp only [Act.put, pa, pb, pc]
        refine tkf (i := 15) (oi := ⟨some 108, _, _, _, _, _⟩) (v := ?_) rfl (by kernel_rfl) (fun _ _ _ h => h) (by assumption) ?_ ?_
        rotate_left
        ·(intro w hS; (try dsimp only at hS); go_simp; try with_reducible rfl)
        try simp only [Act.put, pa, pb, pc]
        refine tks (i := 16) (oi := ⟨some 109, _, _, _, _, _⟩) rfl (by kernel_rfl) (fun _ _ _ h => h) (by assumption) ?_
        try simp only [Act.put, pa, pb, pc]
        refine tks (i := 17) (oi := ⟨some 110, _, _, _, _, _⟩) rfl (by kernel_rfl) (fun _ _ _ h => h) (by assumption) ?_
        try simp only [Act.put, pa, pb, pc]
        refine tks (i := 18) (oi := ⟨some 111, _, _, _, _, _⟩) rfl (by kernel_rfl) (fun _ _ _ h => h) (by assumption) ?_
        try simp only [Act.put, pa, pb, pc]
        refine tks (i := 19) (oi := ⟨some 112, _, _, _, _, _⟩) rfl (by kernel_rfl) (fun _ _ _ h => h) (by assumption) ?_
        try simp only [Act.put, pa, pb, pc]
        refine tks (i := 20) (oi := ⟨some 113, _, _, _, _, _⟩) rfl (by kernel_rfl) (fun _ _ _ h => h) (by assumption) ?_
        try simp only [Act.put, pa, pb, pc]
        refine tks (i := 21) (oi := ⟨some 114, _, _, _, _, _⟩) rfl (by kernel_rfl) (fun _ _ _ h => h) (by assumption) ?_
        try simp only [Act.put, pa, pb, pc]
        refine tks (i := 22) (oi := ⟨some 115, _, _, _, _, _⟩) rfl (by kernel_rfl) (fun _ _ _ h => h) (by assumption) ?_
        try simp only [Act.put, pa, pb, pc]
        refine tks (i := 23) (oi := ⟨some 116, _, _, _, _, _⟩) rfl (by kernel_rfl) (fun _ _ _ h => h) (by assumption) ?_
        try simp only [Act.put, pa, pb, pc]
        refine tks (i := 24) (oi := ⟨some 117, _, _, _, _, _⟩) rfl (by kernel_rfl) (fun _ _ _ h => h) (by assumption) ?_
        try simp only [Act.put, pa, pb, pc]
        refine tks (i := 25) (oi := ⟨some 118, _, _, _, _, _⟩) rfl (by kernel_rfl) (fun _ _ _ h => h) (by assumption) ?_
        try simp only [Act.put, pa, pb, pc]
        refine tkf (i := 26) (oi := ⟨some 119, _, _, _, _, _⟩) (v := ?_) rfl (by kernel_rfl) (fun _ _ _ h => h) (by assumption) ?_ ?_
        rotate_left
        ·(intro w hS; (try dsimp only at hS); go_simp; try with_reducible rfl)
        try simp only [Act.put, pa, pb, pc]
        refine tkf (i := 27) (oi := ⟨some 120, _, _, _, _, _⟩) (v := ?_) rfl (by kernel_rfl) (fun _ _ _ h => h) (by assumption) ?_ ?_
        rotate_left
        ·(intro w hS; (try dsimp only at hS); go_simp; try with_reducible rfl)
        try simp only [Act.put, pa, pb, pc]
        refine tkf (i := 28) (oi := ⟨some 121, _, _, _, _, _⟩) (v := ?_) rfl (by kernel_rfl) (fun _ _ _ h => h) (by assumption) ?_ ?_
        rotate_left
        ·(intro w hS; (try dsimp only at hS); go_simp; try with_reducible rfl)
        try simp only [Act.put, pa, pb, pc]
        refine tkf (i := 29) (oi := ⟨some 122, _, _, _, _, _⟩) (v := ?_) rfl (by kernel_rfl) (fun _ _ _ h => h) (by assumption) ?_ ?_
        rotate_left
        ·(intro w hS; (try dsimp only at hS); go_simp; try with_reducible rfl)
        try simp only [Act.put, pa, pb, pc]
        refine tkf (i := 30) (oi := ⟨some 123, _, _, _, _, _⟩) (v := ?_) rfl (by kernel_rfl) (fun _ _ _ h => h) (by assumption) ?_ ?_
        rotate_left
        ·(intro w hS; (try dsimp only at hS); go_simp; try with_reducible rfl)
        try simp only [Act.put, pa, pb, pc]
        refine tkf (i := 31) (oi := ⟨some 124, _, _, _, _, _⟩) (v := ?_) rfl (by kernel_rfl) (fun _ _ _ h => h) (by assumption) ?_ ?_
        rotate_left
        ·(intro w hS; (try dsimp only at hS); go_simp; try with_reducible rfl)
        try simp only [Act.put, pa, pb, pc]
        refine tkf (i := 32) (oi := ⟨some 125, _, _, _, _, _⟩) (v := ?_) rfl (by kernel_rfl) (fun _ _ _ h => h) (by assumption) ?_ ?_
        rotate_left
        ·(intro w hS; (try dsimp only at hS); go_simp; try with_reducible rfl)
        try simp only [Act.put, pa, pb, pc]
        refine tkf (i := 33) (oi := ⟨some 126, _, _, _, _, _⟩) (v := ?_) rfl (by kernel_rfl) (fun _ _ _ h => h) (by assumption) ?_ ?_
        rotate_left
        ·(intro w hS; (try dsimp only at hS); go_simp; try with_reducible rfl)
        try simp only [Act.put, pa, pb, pc]
        refine tkf (i := 34) (oi := ⟨some 127, _, _, _, _, _⟩) (v := ?_) rfl (by kernel_rfl) (fun _ _ _ h => h) (by assumption) ?_ ?_
        rotate_left
        ·(intro w hS; (try dsimp only at hS); go_simp; try with_reducible rfl)
        try simp only [Act.put, pa, pb, pc]
        refine tkf (i := 35) (oi := ⟨some 128, _, _, _, _, _⟩) (v := ?_) rfl (by kernel_rfl) (fun _ _ _ h => h) (by assumption) ?_ ?_
        rotate_left
        ·(intro w hS; (try dsimp only at hS); go_simp; try with_reducible rfl)
        try simp only [Act.put, pa, pb, pc]
        refine tkf (i := 36) (oi := ⟨some 129, _, _, _, _, _⟩) (v := ?_) rfl (by kernel_rfl) (fun _ _ _ h => h) (by assumption) ?_ ?_
        rotate_left
        ·(intro w hS; (try dsimp only at hS); go_simp; try with_reducible rfl)
        try simp only [Act.put, pa, pb, pc]
        refine tkf (i := 37) (oi := ⟨some 130, _, _, _, _, _⟩) (v := ?_) rfl (by kernel_rfl) (fun _ _ _ h => h) (by assumption) ?_ ?_
        rotate_left
        ·(intro w hS; (try dsimp only at hS); go_simp; try with_reducible rfl)
        try simp only [Act.put, pa, pb, pc]
        refine tkf (i := 38) (oi := ⟨some 131, _, _, _, _, _⟩) (v := ?_) rfl (by kernel_rfl) (fun _ _ _ h => h) (by assumption) ?_ ?_
        rotate_left
        ·(intro w hS; (try dsimp only at hS); go_simp; try with_reducible rfl)
        try simp only [Act.put, pa, pb, pc]
        refine tkf (i := 39) (oi := ⟨some 132, _, _, _, _, _⟩) (v := ?_) rfl (by kernel_rfl) (fun _ _ _ h => h) (by assumption) ?_ ?_
        rotate_left
        ·(intro w hS; (try dsimp only at hS); go_simp; try with_reducible rfl)
        try simp only [Act.put, pa, pb, pc]
        refine tkf (i := 40) (oi := ⟨some 133, _, _, _, _, _⟩) (v := ?_) rfl (by kernel_rfl) (fun _ _ _ h => h) (by assumption) ?_ ?_
        rotate_left
        ·(intro w hS; (try dsimp only at hS); go_simp; try with_reducible rfl)
        try simp only [Act.put, pa, pb, pc]
        refine tkf (i := 41) (oi := ⟨some 134, _, _, _, _, _⟩) (v := ?_) rfl (by kernel_rfl) (fun _ _ _ h => h) (by assumption) ?_ ?_
        rotate_left
        ·(intro w hS; (try dsimp only at hS); go_simp; try with_reducible rfl)
        try simp only [Act.put, pa, pb, pc]
        refine tkf (i := 42) (oi := ⟨some 135, _, _, _, _, _⟩) (v := ?_) rfl (by kernel_rfl) (fun _ _ _ h => h) (by assumption) ?_ ?_
        rotate_left
        ·(intro w hS; (try dsimp only at hS); go_simp; try with_reducible rfl)
        try simp only [Act.put, pa, pb, pc]
        refine tkf (i := 43) (oi := ⟨some 136, _, _, _, _, _⟩) (v := ?_) rfl (by kernel_rfl) (fun _ _ _ h => h) (by assumption) ?_ ?_
        rotate_left
        ·(intro w hS; (try dsimp only at hS); go_simp; try with_reducible rfl)
        try simp only [Act.put, pa, pb, pc]
        refine tkf (i := 44) (oi := ⟨some 137, _, _, _, _, _⟩) (v := ?_) rfl (by kernel_rfl) (fun _ _ _ h => h) (by assumption) ?_ ?_
        rotate_left
        ·(intro w hS; (try dsimp only at hS); go_simp; try with_reducible rfl)
        try simp only [Act.put, pa, pb, pc]
        refine wpAnyH_ready (rs := [45]) (by kernel_rfl) (by simp) ?_
        refine AllReadyH.cons (o := ⟨some 138, _, _, _, _, _⟩) rfl (fun K hK => ?_) AllReadyH.nil
        go_simp
        go_at_call 27
        refine KE8.out.mono ?_
        rintro e wz ⟨rfl, rfl⟩
        go_simp
        refine hK.out _ _ (OS.out) (fun hHeld => ?_)
        try simp only [Act.put, pa, pb, pc]
        refine tkf (i := 46) (oi := ⟨some 139, _, _, _, _, _⟩) (v := ?_) rfl (by kernel_rfl) (fun _ _ _ h => h) (by assumption) ?_ ?_
        rotate_left
        ·(intro w hS; (try dsimp only at hS); go_simp; try with_reducible rfl)
        try simp only [Act.put, pa, pb, pc]
        refine tkf (i := 47) (oi := ⟨some 140, _, _, _, _, _⟩) (v := ?_) rfl (by kernel_rfl) (fun _ _ _ h => h) (by assumption) ?_ ?_
        rotate_left
        ·(intro w hS; (try dsimp only at hS); go_simp; try with_reducible rfl)
        try simp only [Act.put, pa, pb, pc]
        refine wpAnyH_done (by kernel_rfl) ?_ _
        go_wp2_with fail
        go_roundw
        case rel => exact ⟨1, by omega, by go_num, ON⟩
        case measure => simp [intOf]; omega
       ·obtain ⟨kp, hkp⟩ : ∃ kp, kp + 1 = k := ⟨k - 1, by omega⟩
        have hkp1 : kp < m2 := by omega
        have hkp2 : (kp : Int) < (m2 : Int) := by omega
        have hk1 : decide ((0 : Int) < (k : Int)) = true := by rw [decide_eq_true_iff]; omega
        have hk2 : decide (0 < k) = true := by rw [decide_eq_true_iff]; omega
        have ekp : IntKind.i64.wrap ((k : Int) - 1) = (kp : Int) := by rw [show (k : Int) - 1 = (kp : Int) by omega]; exact IntWalk.i64_in _ (by omega)
        obtain ⟨y, hy⟩ : ∃ y, R[kp]? = some y := ⟨_, List.getElem?_eq_getElem (by rw [HM2.out]; exact hkp1)⟩
        have hxy : ¬ (xn : Int) ≤ y := by
         have := HOR.out kp y (xn : Int) hy (by rw [hkp]; exact hx)
         omega
        have Y9 := Lib.hid (show w9.drew.cell? (ad2.add kp) = some (.int .i64 y) from by
         obtain ⟨a, e, h⟩ := HI.out w9.drew ON.out kp _ hy
         injection e with e
         rw [e]; exact h)
        have OS := Lib.hid (show (fun W' => W'.cell? (ad2.add k) = some (.int .i64 (xn : Nat)) ∧ W'.cell? ⟨pb, 0, none⟩ = some (.int .i64 (xn : Nat)) ∧ W'.cell? ⟨pb, 1, none⟩ = some (.int .i64 q) ∧ W'.cell? (ad2.add kp) = some (.int .i64 y)) w9.drew from ⟨X9.out, (P9.out _ D9.out).1, (P9.out _ D9.out).2, Y9.out⟩)
        clear b9 B9 hpb hkp hk0 hy
        refine wp_region_held_drew (S := fun W' => W'.cell? (ad2.add k) = some (.int .i64 (xn : Nat)) ∧ W'.cell? ⟨pb, 0, none⟩ = some (.int .i64 (xn : Nat)) ∧ W'.cell? ⟨pb, 1, none⟩ = some (.int .i64 q) ∧ W'.cell? (ad2.add kp) = some (.int .i64 y)) (by kernel_rfl) (OS.out) (fun hHeld => ?_)
        refine tkf (i := 0) (oi := ⟨some 93, _, _, _, _, _⟩) (v := ?_) rfl (by kernel_rfl) (fun _ _ _ h => h) (by assumption) ?_ ?_
        rotate_left
        ·(intro w hS; (try dsimp only at hS); go_simp; try with_reducible rfl)
        try simp only [Act.put, pa, pb, pc]
        refine tkf (i := 1) (oi := ⟨some 94, _, _, _, _, _⟩) (v := ?_) rfl (by kernel_rfl) (fun _ _ _ h => h) (by assumption) ?_ ?_
        rotate_left
        ·(intro w hS; (try dsimp only at hS); go_simp; try with_reducible rfl)
        try simp only [Act.put, pa, pb, pc]
        refine tkf (i := 2) (oi := ⟨some 95, _, _, _, _, _⟩) (v := ?_) rfl (by kernel_rfl) (fun _ _ _ h => h) (by assumption) ?_ ?_
        rotate_left
        ·(intro w hS; (try dsimp only at hS); go_simp; try with_reducible rfl)
        try simp only [Act.put, pa, pb, pc]
        refine tkf (i := 3) (oi := ⟨some 96, _, _, _, _, _⟩) (v := ?_) rfl (by kernel_rfl) (fun _ _ _ h => h) (by assumption) ?_ ?_
        rotate_left
        ·(intro w hS; (try dsimp only at hS); go_simp; try with_reducible rfl)
        try simp only [Act.put, pa, pb, pc]
        refine tkf (i := 4) (oi := ⟨some 97, _, _, _, _, _⟩) (v := ?_) rfl (by kernel_rfl) (fun _ _ _ h => h) (by assumption) ?_ ?_
        rotate_left
        ·(intro w hS; (try dsimp only at hS); go_simp; try with_reducible rfl)
        try simp only [Act.put, pa, pb, pc]
        refine tkf (i := 5) (oi := ⟨some 98, _, _, _, _, _⟩) (v := ?_) rfl (by kernel_rfl) (fun _ _ _ h => h) (by assumption) ?_ ?_
        rotate_left
        ·(intro w hS; (try dsimp only at hS); go_simp; try with_reducible rfl)
        try simp only [Act.put, pa, pb, pc]
        refine tkf (i := 6) (oi := ⟨some 99, _, _, _, _, _⟩) (v := ?_) rfl (by kernel_rfl) (fun _ _ _ h => h) (by assumption) ?_ ?_
        rotate_left
        ·(intro w hS; (try dsimp only at hS); go_simp; try with_reducible rfl)
        try simp only [Act.put, pa, pb, pc]
        refine tkf (i := 7) (oi := ⟨some 100, _, _, _, _, _⟩) (v := ?_) rfl (by kernel_rfl) (fun _ _ _ h => h) (by assumption) ?_ ?_
        rotate_left
        ·(intro w hS; (try dsimp only at hS); go_simp; try with_reducible rfl)
        try simp only [Act.put, pa, pb, pc]
        refine tkf (i := 8) (oi := ⟨some 101, _, _, _, _, _⟩) (v := ?_) rfl (by kernel_rfl) (fun _ _ _ h => h) (by assumption) ?_ ?_
        rotate_left
        ·(intro w hS; (try dsimp only at hS); go_simp; try with_reducible rfl)
        try simp only [Act.put, pa, pb, pc]
        refine tkf (i := 9) (oi := ⟨some 102, _, _, _, _, _⟩) (v := ?_) rfl (by kernel_rfl) (fun _ _ _ h => h) (by assumption) ?_ ?_
        rotate_left
        ·(intro w hS; (try dsimp only at hS); go_simp; try with_reducible rfl)
        try simp only [Act.put, pa, pb, pc]
        refine tkf (i := 10) (oi := ⟨some 103, _, _, _, _, _⟩) (v := ?_) rfl (by kernel_rfl) (fun _ _ _ h => h) (by assumption) ?_ ?_
        rotate_left
        ·(intro w hS; (try dsimp only at hS); go_simp; try with_reducible rfl)
        try simp only [Act.put, pa, pb, pc]
        refine tkf (i := 11) (oi := ⟨some 104, _, _, _, _, _⟩) (v := ?_) rfl (by kernel_rfl) (fun _ _ _ h => h) (by assumption) ?_ ?_
        rotate_left
        ·(intro w hS; (try dsimp only at hS); go_simp; try with_reducible rfl)
        try simp only [Act.put, pa, pb, pc]
        refine tkf (i := 12) (oi := ⟨some 105, _, _, _, _, _⟩) (v := ?_) rfl (by kernel_rfl) (fun _ _ _ h => h) (by assumption) ?_ ?_
        rotate_left
        ·(intro w hS; (try dsimp only at hS); go_simp; try with_reducible rfl)
        try simp only [Act.put, pa, pb, pc]
        refine tkf (i := 13) (oi := ⟨some 106, _, _, _, _, _⟩) (v := ?_) rfl (by kernel_rfl) (fun _ _ _ h => h) (by assumption) ?_ ?_
        rotate_left
        ·(intro w hS; (try dsimp only at hS); go_simp; try with_reducible rfl)
        try simp only [Act.put, pa, pb, pc]
        refine tkf (i := 14) (oi := ⟨some 107, _, _, _, _, _⟩) (v := ?_) rfl (by kernel_rfl) (fun _ _ _ h => h) (by assumption) ?_ ?_
        rotate_left
        ·(intro w hS; (try dsimp only at hS); go_simp; try with_reducible rfl)
        try simp only [Act.put, pa, pb, pc]
        refine tkf (i := 15) (oi := ⟨some 108, _, _, _, _, _⟩) (v := ?_) rfl (by kernel_rfl) (fun _ _ _ h => h) (by assumption) ?_ ?_
        rotate_left
        ·(intro w hS; (try dsimp only at hS); go_simp; try with_reducible rfl)
        try simp only [Act.put, pa, pb, pc]
        refine tkf (i := 16) (oi := ⟨some 109, _, _, _, _, _⟩) (v := ?_) rfl (by kernel_rfl) (fun _ _ _ h => h) (by assumption) ?_ ?_
        rotate_left
        ·(intro w hS; (try dsimp only at hS); go_simp; try with_reducible rfl)
        try simp only [Act.put, pa, pb, pc]
        refine tkf (i := 17) (oi := ⟨some 110, _, _, _, _, _⟩) (v := ?_) rfl (by kernel_rfl) (fun _ _ _ h => h) (by assumption) ?_ ?_
        rotate_left
        ·(intro w hS; (try dsimp only at hS); go_simp; try with_reducible rfl)
        try simp only [Act.put, pa, pb, pc]
        refine tkf (i := 18) (oi := ⟨some 111, _, _, _, _, _⟩) (v := ?_) rfl (by kernel_rfl) (fun _ _ _ h => h) (by assumption) ?_ ?_
        rotate_left
        ·(intro w hS; (try dsimp only at hS); go_simp; try with_reducible rfl)
        try simp only [Act.put, pa, pb, pc]
        refine tkf (i := 19) (oi := ⟨some 112, _, _, _, _, _⟩) (v := ?_) rfl (by kernel_rfl) (fun _ _ _ h => h) (by assumption) ?_ ?_
        rotate_left
        ·(intro w hS; (try dsimp only at hS); go_simp; try with_reducible rfl)
        try simp only [Act.put, pa, pb, pc]
        refine tkf (i := 20) (oi := ⟨some 113, _, _, _, _, _⟩) (v := ?_) rfl (by kernel_rfl) (fun _ _ _ h => h) (by assumption) ?_ ?_
        rotate_left
        ·(intro w hS; (try dsimp only at hS); go_simp; try with_reducible rfl)
        try simp only [Act.put, pa, pb, pc]
        refine tkf (i := 21) (oi := ⟨some 114, _, _, _, _, _⟩) (v := ?_) rfl (by kernel_rfl) (fun _ _ _ h => h) (by assumption) ?_ ?_
        rotate_left
        ·(intro w hS; (try dsimp only at hS); go_simp; try with_reducible rfl)
        try simp only [Act.put, pa, pb, pc]
        refine tkf (i := 22) (oi := ⟨some 115, _, _, _, _, _⟩) (v := ?_) rfl (by kernel_rfl) (fun _ _ _ h => h) (by assumption) ?_ ?_
        rotate_left
        ·(intro w hS; (try dsimp only at hS); go_simp; try with_reducible rfl)
        try simp only [Act.put, pa, pb, pc]
        refine tkf (i := 23) (oi := ⟨some 116, _, _, _, _, _⟩) (v := ?_) rfl (by kernel_rfl) (fun _ _ _ h => h) (by assumption) ?_ ?_
        rotate_left
        ·(intro w hS; (try dsimp only at hS); go_simp; try with_reducible rfl)
        try simp only [Act.put, pa, pb, pc]
        refine tkf (i := 24) (oi := ⟨some 117, _, _, _, _, _⟩) (v := ?_) rfl (by kernel_rfl) (fun _ _ _ h => h) (by assumption) ?_ ?_
        rotate_left
        ·(intro w hS; (try dsimp only at hS); go_simp; try with_reducible rfl)
        try simp only [Act.put, pa, pb, pc]
        refine tkf (i := 25) (oi := ⟨some 118, _, _, _, _, _⟩) (v := ?_) rfl (by kernel_rfl) (fun _ _ _ h => h) (by assumption) ?_ ?_
        rotate_left
        ·(intro w hS; (try dsimp only at hS); go_simp; try with_reducible rfl)
        try simp only [Act.put, pa, pb, pc]
        refine tkf (i := 26) (oi := ⟨some 119, _, _, _, _, _⟩) (v := ?_) rfl (by kernel_rfl) (fun _ _ _ h => h) (by assumption) ?_ ?_
        rotate_left
        ·(intro w hS; (try dsimp only at hS); go_simp; try with_reducible rfl)
        try simp only [Act.put, pa, pb, pc]
        refine tkf (i := 27) (oi := ⟨some 120, _, _, _, _, _⟩) (v := ?_) rfl (by kernel_rfl) (fun _ _ _ h => h) (by assumption) ?_ ?_
        rotate_left
        ·(intro w hS; (try dsimp only at hS); go_simp; try with_reducible rfl)
        try simp only [Act.put, pa, pb, pc]
        refine tkf (i := 28) (oi := ⟨some 121, _, _, _, _, _⟩) (v := ?_) rfl (by kernel_rfl) (fun _ _ _ h => h) (by assumption) ?_ ?_
        rotate_left
        ·(intro w hS; (try dsimp only at hS); go_simp; try with_reducible rfl)
        try simp only [Act.put, pa, pb, pc]
        refine tkf (i := 29) (oi := ⟨some 122, _, _, _, _, _⟩) (v := ?_) rfl (by kernel_rfl) (fun _ _ _ h => h) (by assumption) ?_ ?_
        rotate_left
        ·(intro w hS; (try dsimp only at hS); go_simp; try with_reducible rfl)
        try simp only [Act.put, pa, pb, pc]
        refine tkf (i := 30) (oi := ⟨some 123, _, _, _, _, _⟩) (v := ?_) rfl (by kernel_rfl) (fun _ _ _ h => h) (by assumption) ?_ ?_
        rotate_left
        ·(intro w hS; (try dsimp only at hS); go_simp; try with_reducible rfl)
        try simp only [Act.put, pa, pb, pc]
        refine tkf (i := 31) (oi := ⟨some 124, _, _, _, _, _⟩) (v := ?_) rfl (by kernel_rfl) (fun _ _ _ h => h) (by assumption) ?_ ?_
        rotate_left
        ·(intro w hS; (try dsimp only at hS); go_simp; try with_reducible rfl)
        try simp only [Act.put, pa, pb, pc]
        refine tkf (i := 32) (oi := ⟨some 125, _, _, _, _, _⟩) (v := ?_) rfl (by kernel_rfl) (fun _ _ _ h => h) (by assumption) ?_ ?_
        rotate_left
        ·(intro w hS; (try dsimp only at hS); go_simp; try with_reducible rfl)
        try simp only [Act.put, pa, pb, pc]
        refine tkf (i := 33) (oi := ⟨some 126, _, _, _, _, _⟩) (v := ?_) rfl (by kernel_rfl) (fun _ _ _ h => h) (by assumption) ?_ ?_
        rotate_left
        ·(intro w hS; (try dsimp only at hS); go_simp; try with_reducible rfl)
        try simp only [Act.put, pa, pb, pc]
        refine tkf (i := 34) (oi := ⟨some 127, _, _, _, _, _⟩) (v := ?_) rfl (by kernel_rfl) (fun _ _ _ h => h) (by assumption) ?_ ?_
        rotate_left
        ·(intro w hS; (try dsimp only at hS); go_simp; try with_reducible rfl)
        try simp only [Act.put, pa, pb, pc]
        refine tkf (i := 35) (oi := ⟨some 128, _, _, _, _, _⟩) (v := ?_) rfl (by kernel_rfl) (fun _ _ _ h => h) (by assumption) ?_ ?_
        rotate_left
        ·(intro w hS; (try dsimp only at hS); go_simp; try with_reducible rfl)
        try simp only [Act.put, pa, pb, pc]
        refine tkf (i := 36) (oi := ⟨some 129, _, _, _, _, _⟩) (v := ?_) rfl (by kernel_rfl) (fun _ _ _ h => h) (by assumption) ?_ ?_
        rotate_left
        ·(intro w hS; (try dsimp only at hS); go_simp; try with_reducible rfl)
        try simp only [Act.put, pa, pb, pc]
        refine tkf (i := 37) (oi := ⟨some 130, _, _, _, _, _⟩) (v := ?_) rfl (by kernel_rfl) (fun _ _ _ h => h) (by assumption) ?_ ?_
        rotate_left
        ·(intro w hS; (try dsimp only at hS); go_simp; try with_reducible rfl)
        try simp only [Act.put, pa, pb, pc]
        refine tkf (i := 38) (oi := ⟨some 131, _, _, _, _, _⟩) (v := ?_) rfl (by kernel_rfl) (fun _ _ _ h => h) (by assumption) ?_ ?_
        rotate_left
        ·(intro w hS; (try dsimp only at hS); go_simp; try with_reducible rfl)
        try simp only [Act.put, pa, pb, pc]
        refine tkf (i := 39) (oi := ⟨some 132, _, _, _, _, _⟩) (v := ?_) rfl (by kernel_rfl) (fun _ _ _ h => h) (by assumption) ?_ ?_
        rotate_left
        ·(intro w hS; (try dsimp only at hS); go_simp; try with_reducible rfl)
        try simp only [Act.put, pa, pb, pc]
        refine tkf (i := 40) (oi := ⟨some 133, _, _, _, _, _⟩) (v := ?_) rfl (by kernel_rfl) (fun _ _ _ h => h) (by assumption) ?_ ?_
        rotate_left
        ·(intro w hS; (try dsimp only at hS); go_simp; try with_reducible rfl)
        try simp only [Act.put, pa, pb, pc]
        refine tkf (i := 41) (oi := ⟨some 134, _, _, _, _, _⟩) (v := ?_) rfl (by kernel_rfl) (fun _ _ _ h => h) (by assumption) ?_ ?_
        rotate_left
        ·(intro w hS; (try dsimp only at hS); go_simp; try with_reducible rfl)
        try simp only [Act.put, pa, pb, pc]
        refine tkf (i := 42) (oi := ⟨some 135, _, _, _, _, _⟩) (v := ?_) rfl (by kernel_rfl) (fun _ _ _ h => h) (by assumption) ?_ ?_
        rotate_left
        ·(intro w hS; (try dsimp only at hS); go_simp; try with_reducible rfl)
        try simp only [Act.put, pa, pb, pc]
        refine tkf (i := 43) (oi := ⟨some 136, _, _, _, _, _⟩) (v := ?_) rfl (by kernel_rfl) (fun _ _ _ h => h) (by assumption) ?_ ?_
        rotate_left
        ·(intro w hS; (try dsimp only at hS); go_simp; try with_reducible rfl)
        try simp only [Act.put, pa, pb, pc]
        refine tkf (i := 44) (oi := ⟨some 137, _, _, _, _, _⟩) (v := ?_) rfl (by kernel_rfl) (fun _ _ _ h => h) (by assumption) ?_ ?_
        rotate_left
        ·(intro w hS; (try dsimp only at hS); go_simp; try with_reducible rfl)
        try simp only [Act.put, pa, pb, pc]
        refine wpAnyH_ready (rs := [45]) (by kernel_rfl) (by simp) ?_
        refine AllReadyH.cons (o := ⟨some 138, _, _, _, _, _⟩) rfl (fun K hK => ?_) AllReadyH.nil
        go_simp
        go_at_call 27
        refine KE8.out.mono ?_
        rintro e wz ⟨rfl, rfl⟩
        go_simp
        refine hK.out _ _ (OS.out) (fun hHeld => ?_)
        try simp only [Act.put, pa, pb, pc]
        refine tkf (i := 46) (oi := ⟨some 139, _, _, _, _, _⟩) (v := ?_) rfl (by kernel_rfl) (fun _ _ _ h => h) (by assumption) ?_ ?_
        rotate_left
        ·(intro w hS; (try dsimp only at hS); go_simp; try with_reducible rfl)
        try simp only [Act.put, pa, pb, pc]
        refine tkf (i := 47) (oi := ⟨some 140, _, _, _, _, _⟩) (v := ?_) rfl (by kernel_rfl) (fun _ _ _ h => h) (by assumption) ?_ ?_
        rotate_left
        ·(intro w hS; (try dsimp only at hS); go_simp; try with_reducible rfl)
        try simp only [Act.put, pa, pb, pc]
        refine wpAnyH_done (by kernel_rfl) ?_ _
        go_wp2_with fail
        go_roundw
        case rel => exact ⟨k + 1, by omega, by go_num, ON⟩
        case measure => simp [intOf]; omega
      ·have hkI : ¬ (k : Int) < (m2 : Int) := by omega
       go_wp2_with fail
       have HF := Lib.hid (HLL.out wr (bstep O6.out O.out))
       go_roundw
       case rel => exact ⟨i + 1, b2, by omega, by go_num, rfl, HF⟩
       case measure => simp [intOf]; omega
   ·have h2I : ¬ (i : Int) < 40 := by omega
    go_wp2_with fail
    go_ret
    exact ⟨by first | rfl | simp, H.out.b0⟩
  ·have h1I : ¬ (i : Int) < (m : Int) := by omega
   go_wp2_with fail
   go_ret
   exact ⟨by first | rfl | simp, H.out.b0⟩
end Go.Proofs.YtbelcgjbhpjnpaaGreat.Sh
