/- shadow's laws: Images. -/
import Derived.Test.YtbelcgjbhpjnpaaGreatU5
import Derived.Deep.Cut
import Derived.Deep.CutRange
set_option linter.all false
set_option linter.unusedVariables false
set_option linter.unusedSimpArgs false
namespace Go.Proofs.YtbelcgjbhpjnpaaGreat.Sh
open Go.RowKit Pk Dk Pg
attribute [local go_sem ↓] Go.wp_at_zero Go.wp_at_succ
set_option maxRecDepth 100000 in
set_option maxHeartbeats 8000000 in
theorem shadowImages_any {w : World} (A : Option Addr) (m cc : Nat) (F : Nat → Sa) (hm : m ≤ 9223372036854775807) (hA : SActs w A m F) (at_ : Int) (tx im : ByteArray) :
  Calls Tryz.prog 7 #[.agg #[.slice A m cc, .int .i64 at_, .string tx, .string im]] w fun e w' => e = .returned (.bool true) ∧ Below w.heap.size w w' := by
 obtain ⟨qb, hqb⟩ : ∃ q, w.heap.size = q := ⟨_, rfl⟩
 have B1 := Blk.new w 70 #[.slice A m cc, .int .i64 at_, .string tx, .string im]
 have b1 := Rt.belowAlloc (Below.refl w.heap.size w) (.cells #[.slice A m cc, .int .i64 at_, .string tx, .string im] 70)
 obtain ⟨w1, hw1⟩ : ∃ w1, w.alloc (.cells #[.slice A m cc, .int .i64 at_, .string tx, .string im] 70) = w1 := ⟨_, rfl⟩
 rw [hw1, hqb] at B1
 rw [hw1] at b1
 have HC1 := Lib.hid (fun (W : World) (hW : Below w1.heap.size w1 W) => (show (fun W' => W'.cell? ⟨qb, 0, none⟩ = some (.slice A m cc) ∧ W'.cell? ⟨qb, 1, none⟩ = some (.int .i64 at_) ∧ W'.cell? ⟨qb, 2, none⟩ = some (.string tx) ∧ W'.cell? ⟨qb, 3, none⟩ = some (.string im)) W from
  have B := B1.below hW B1.lt
  ⟨B.cell_some (i := 0) rfl, B.cell_some (i := 1) rfl, B.cell_some (i := 2) rfl, B.cell_some (i := 3) rfl⟩))
 have HB1 := Lib.hid b1
 clear B1 b1
 go_enter Tryz.func7, Tryz.ntmps7
 go_wp2_with fail
 clear hw1 hqb
 have O1 := Lib.hid (Below.refl w1.heap.size w1).drew
 refine wp_region_held_drew (S := fun W' => W'.cell? ⟨qb, 0, none⟩ = some (.slice A m cc) ∧ W'.cell? ⟨qb, 1, none⟩ = some (.int .i64 at_) ∧ W'.cell? ⟨qb, 2, none⟩ = some (.string tx) ∧ W'.cell? ⟨qb, 3, none⟩ = some (.string im)) (by kernel_rfl) (HC1.out _ O1.out) (fun hHeld => ?_)
 refine tkf (i := 0) (oi := ⟨some 21, _, _, _, _, _⟩) (v := ?_) rfl (by kernel_rfl) (fun _ _ _ h => h) (by assumption) ?_ ?_
 rotate_left
 ·(intro w hS; (try dsimp only at hS); go_simp; try with_reducible rfl)
 try simp only [Act.put, pa, pb, pc]
 refine tkf (i := 1) (oi := ⟨some 22, _, _, _, _, _⟩) (v := ?_) rfl (by kernel_rfl) (fun _ _ _ h => h) (by assumption) ?_ ?_
 rotate_left
 ·(intro w hS; (try dsimp only at hS); go_simp; try with_reducible rfl)
 try simp only [Act.put, pa, pb, pc]
 refine tkf (i := 2) (oi := ⟨some 23, _, _, _, _, _⟩) (v := ?_) rfl (by kernel_rfl) (fun _ _ _ h => h) (by assumption) ?_ ?_
 rotate_left
 ·(intro w hS; (try dsimp only at hS); go_simp; try with_reducible rfl)
 try simp only [Act.put, pa, pb, pc]
 refine tkf (i := 3) (oi := ⟨some 24, _, _, _, _, _⟩) (v := ?_) rfl (by kernel_rfl) (fun _ _ _ h => h) (by assumption) ?_ ?_
 rotate_left
 ·(intro w hS; (try dsimp only at hS); go_simp; try with_reducible rfl)
 try simp only [Act.put, pa, pb, pc]
 refine tkf (i := 4) (oi := ⟨some 25, _, _, _, _, _⟩) (v := ?_) rfl (by kernel_rfl) (fun _ _ _ h => h) (by assumption) ?_ ?_
 rotate_left
 ·(intro w hS; (try dsimp only at hS); go_simp; try with_reducible rfl)
 try simp only [Act.put, pa, pb, pc]
 refine tkf (i := 5) (oi := ⟨some 26, _, _, _, _, _⟩) (v := ?_) rfl (by kernel_rfl) (fun _ _ _ h => h) (by assumption) ?_ ?_
 rotate_left
 ·(intro w hS; (try dsimp only at hS); go_simp; try with_reducible rfl)
 try simp only [Act.put, pa, pb, pc]
 refine tkf (i := 6) (oi := ⟨some 27, _, _, _, _, _⟩) (v := ?_) rfl (by kernel_rfl) (fun _ _ _ h => h) (by assumption) ?_ ?_
 rotate_left
 ·(intro w hS; (try dsimp only at hS); go_simp; try with_reducible rfl)
 try simp only [Act.put, pa, pb, pc]
 refine tkf (i := 7) (oi := ⟨some 28, _, _, _, _, _⟩) (v := ?_) rfl (by kernel_rfl) (fun _ _ _ h => h) (by assumption) ?_ ?_
 rotate_left
 ·(intro w hS; (try dsimp only at hS); go_simp; try with_reducible rfl)
 try simp only [Act.put, pa, pb, pc]
 refine tkf (i := 8) (oi := ⟨some 3, _, _, _, _, _⟩) (v := ?_) rfl (by kernel_rfl) (fun _ _ _ h => h) (by assumption) ?_ ?_
 rotate_left
 ·(intro w hS; (try dsimp only at hS); go_simp; try with_reducible rfl)
 try simp only [Act.put, pa, pb, pc]
 refine tkf (i := 9) (oi := ⟨some 4, _, _, _, _, _⟩) (v := ?_) rfl (by kernel_rfl) (fun _ _ _ h => h) (by assumption) ?_ ?_
 rotate_left
 ·(intro w hS; (try dsimp only at hS); go_simp; try with_reducible rfl)
 try simp only [Act.put, pa, pb, pc]
 refine tkf (i := 10) (oi := ⟨some 5, _, _, _, _, _⟩) (v := ?_) rfl (by kernel_rfl) (fun _ _ _ h => h) (by assumption) ?_ ?_
 rotate_left
 ·(intro w hS; (try dsimp only at hS); go_simp; try with_reducible rfl)
 try simp only [Act.put, pa, pb, pc]
 refine tkf (i := 11) (oi := ⟨some 6, _, _, _, _, _⟩) (v := ?_) rfl (by kernel_rfl) (fun _ _ _ h => h) (by assumption) ?_ ?_
 rotate_left
 ·(intro w hS; (try dsimp only at hS); go_simp; try with_reducible rfl)
 try simp only [Act.put, pa, pb, pc]
 refine wpAnyH_done (by kernel_rfl) ?_ _
 have B2 := Lib.hid HB1.out.drew
 clear HC1 HB1 O1
 generalize w1.drew = w2 at *
 have HA := Lib.hid (fun (W : World) (hb : Below w2.heap.size w2 W) => hA.below (bstep B2.out hb))
 have KB := Lib.hid (show Calls Tryz.prog 13 #[.int .i64 8] w2 fun e w' => ∃ x rb c, e = .returned (.tuple #[dp x.L.b, sp x.b, rp rb]) ∧ LS w2 w' x rb 34 c (St.start 8) 0 1 true from begun14_any w2 8 (by omega) (by omega))
 have KA := Lib.hid awake14
 have KS := Lib.hid short14_any
 have KD := Lib.hid (fun (W : World) (L : Dk.Loc) (b rb K : Nat) (h : LL w2 W L b rb 34 K) (kd l : Int) (s : ByteArray) (hs : s.size ≤ 1000000) (hK : K ≤ 999) => h.do_ kd l s hs hK)
 have KW := Lib.hid (fun (W : World) (L : Dk.Loc) (b rb K : Nat) (h : LL w2 W L b rb 34 K) (hK : K ≤ 999) => h.write_ hK (by decide))
 have KOF := Lib.hid (fun (W : World) (hb : Below w2.heap.size w2 W) (h0 : 0 < im.size) (h1 : im.size < 3000) => du_of hb im h0 h1)
 have KO := Lib.hid (fun (W : World) (L : Dk.Loc) (n : Nat) (d : Dk.D) (h : DU w2 W L n d) => h.open_)
 have KBY := Lib.hid (fun (W : World) (L : Dk.Loc) (n : Nat) (d : Dk.D) (hd : DiskAt W L n d) (hdn : d.down = false) (id : Nat) (h : id < manyF n) => bytes14_any hd hdn id h)
 have KSC := Lib.hid (fun (W : World) (L : Dk.Loc) (d : Dk.D) (h : DU w2 W L 1 d) => h.sectors)
 have HFIN := Lib.hid (fun (W : World) (h : Below w2.heap.size w2 W) => bstep B2.out h)
 clear hA
 unfold dp sp rp at *
 go_wp2_with fail
 refine KB.out.mono ?_
 rintro e w3 ⟨x, rb, c, rfl, S3⟩
 obtain ⟨L, hL⟩ : ∃ L, x.L = L := ⟨_, rfl⟩
 obtain ⟨b, hb⟩ : ∃ b, x.b = b := ⟨_, rfl⟩
 have H3 := Lib.hid (show LL w2 w3 L b rb 34 1 from ⟨x, c, _, _, hL, hb, S3⟩)
 rw [hL, hb]
 clear S3 hL hb
 go_wp2_with fail
 refine (KA.out w3).mono ?_
 rintro e w4 ⟨rfl, hb4⟩
 have H4 := Lib.hid (H3.out.below hb4)
 clear hb4
 go_upto_region 5 with (fail)
 iterate 7 (first | go_values | go_skip | go_guarded | go_step | go_upon | go_back)
 go_cut [8] from 40 to 65 (fun s8 wx => ∃ b2 K : Nat, s8 = .pointer (some ⟨b2, 0, none⟩) ∧ K ≤ 21 ∧ Hid (LL w2 wx L b2 rb 34 K))
 case first =>
  go_wp2_with fail
  go_loopw [8, 10] (fun sv iv wr => ∃ (i : Nat) (b' : Nat), i ≤ 20 ∧ iv = .int .i64 i ∧ sv = .pointer (some ⟨b', 0, none⟩) ∧ Hid (LL w2 wr L b' rb 34 (i + 1))) (fun _ iv _ => 20 - (intOf iv).toNat)
  case atStart => exact ⟨0, b, Nat.zero_le _, rfl, rfl, H4⟩
  case round =>
   obtain ⟨i, b', hi, rfl, rfl, H⟩ := hrel
   by_cases h1 : i < m
   ·have h1I : (i : Int) < (m : Int) := by omega
    by_cases h2 : i < 20
    ·have h2I : (i : Int) < 20 := by omega
     obtain ⟨ad, rfl, hSa⟩ := HA.out wr H.out.b0 i h1
     obtain ⟨c0, c1, c2⟩ := hSa
     have HC := Lib.hid (show ∀ W, Below w2.heap.size w2 W → SaAt W (ad.add (i * 3)) (F i) from fun W hb => by
      obtain ⟨ad', e, h⟩ := HA.out W hb i h1
      injection e with e
      rw [e]; exact h)
     generalize F i = sa at c0 c1 c2 HC
     obtain ⟨kd, l, s⟩ := sa
     dsimp only at c0 c1 c2
     have KS2 := Lib.hid (fun (W : World) => KS.out kd l s W _ rfl)
     have ei : IntKind.i64.wrap ((i : Int) + 1) = ((i + 1 : Nat) : Int) := IntWalk.i64_in _ (by omega)
     obtain ⟨bb, hbb⟩ : ∃ bb, decide (s.size < 500) = bb := ⟨_, rfl⟩
     rw [hbb] at KS2
     have HBB := Lib.hid hbb
     clear hbb
     go_wp2_with fail
     refine (KS2.out _).mono ?_
     rintro e w5 ⟨rfl, hb5⟩
     have H5 := Lib.hid (H.out.below hb5)
     obtain ⟨d0, d1, d2⟩ := HC.out w5 H5.out.b0
     dsimp only at d0 d1 d2
     clear hb5 c0 c1 c2
     cases bb
     ·go_wp2_with fail
      have H6 := Lib.hid H5.out.more
      go_roundw
      case rel => exact ⟨i + 1, b', by omega, by go_num, rfl, H6⟩
      case measure => simp [intOf]; omega
     ·go_wp2_with fail
      refine (KD.out w5 L b' rb (i + 1) H5.out kd l s (by have := of_decide_eq_true HBB.out; omega) (by omega)).mono ?_
      rintro e w6 ⟨b2, rfl, h6⟩
      have H6 := Lib.hid h6
      clear h6 d0 d1 d2
      go_wp2_with fail
      go_roundw
      case rel => exact ⟨i + 1, b2, by omega, by go_num, rfl, H6⟩
      case measure => simp [intOf]; omega
    ·have h2I : ¬ (i : Int) < 20 := by omega
     go_wp2_with fail
     go_meet
     exact ⟨b', i + 1, rfl, by omega, H⟩
   ·have h1I : ¬ (i : Int) < (m : Int) := by omega
    go_wp2_with fail
    go_meet
    exact ⟨b', i + 1, rfl, by omega, H⟩
 case rest =>
  obtain ⟨b2, K, rfl, hK, HL⟩ := hcut
  obtain ⟨hDU, hWR⟩ := KW.out wc L b2 rb K HL.out (by omega)
  have HDU := Lib.hid hDU
  have HWR := Lib.hid hWR
  clear hDU hWR H4 H3 KB KA KS KD KW HA
  go_upto_if 68 with (fail)
  go_cut [] from 66 to 72 (fun wx => Hid (∃ d, DU w2 wx L 34 d))
  case first =>
   by_cases ht : (tx.size : Int) < 500
   ·go_wp2_with fail
    refine (HWR.out at_ tx).mono ?_
    rintro e w5 ⟨q, rfl, h5⟩
    have H5 := Lib.hid h5
    clear h5
    go_wp2_with fail
    go_meet
    exact H5
   ·go_wp2_with fail
    go_meet
    exact HDU
  case rest =>
   have HD2 := Lib.hid hcut.out
   clear HDU HWR hcut
   obtain ⟨bb, hbb⟩ : ∃ bb, decide (0 < im.size ∧ im.size < 3000) = bb := ⟨_, rfl⟩
   have HBB := Lib.hid hbb
   clear hbb
   go_upto_region 12 with (fail)
   go_cut [80] from 73 to 80 (fun s80 wx => s80 = .bool bb ∧ Hid (∃ d, DU w2 wx L 34 d))
   case first =>
    have hb2 := HBB.out
    rcases (show im.size = 0 ∨ 3000 ≤ im.size ∨ (0 < im.size ∧ im.size < 3000) by omega) with h | h | h
    ·rw [decide_eq_false (by omega)] at hb2
     subst hb2
     have h' : ¬ (0 : Int) < (im.size : Int) := by omega
     clear h
     go_wp2_with fail
     go_meet
     exact ⟨rfl, HD2⟩
    ·rw [decide_eq_false (by omega)] at hb2
     subst hb2
     have h' : (0 : Int) < (im.size : Int) := by omega
     have h2' : ¬ (im.size : Int) < 3000 := by omega
     clear h
     go_wp2_with fail
     go_meet
     exact ⟨rfl, HD2⟩
    ·rw [decide_eq_true h] at hb2
     subst hb2
     have h' : (0 : Int) < (im.size : Int) := by omega
     have h2' : (im.size : Int) < 3000 := by omega
     clear h
     go_wp2_with fail
     go_meet
     exact ⟨rfl, HD2⟩
   case rest =>
    obtain ⟨rfl, HD3⟩ := hcut
    clear HD2
    go_upto_if 80 with (fail)
    go_cut [7] from 80 to 85 (fun s7 wx => ∃ (L2 : Dk.Loc) (n2 : Nat), s7 = .pointer (some ⟨L2.b, 0, none⟩) ∧ Hid (∃ d, DU w2 wx L2 n2 d))
    case first =>
     cases bb
     ·go_wp2_with fail
      go_meet
      exact ⟨L, 34, rfl, HD3⟩
     ·have hh := of_decide_eq_true HBB.out
      obtain ⟨d5, hd5⟩ := HD3.out
      have KOF2 := Lib.hid (KOF.out _ hd5.2.2.2.1 hh.1 hh.2)
      clear hh hd5
      go_wp2_with fail
      refine KOF2.out.mono ?_
      rintro e w6 ⟨L2, n2, rfl, h6⟩
      have H6 := Lib.hid h6
      clear h6
      go_wp2_with fail
      go_meet
      exact ⟨L2, n2, rfl, H6⟩
    case rest =>
     obtain ⟨L2, n2, rfl, HD4⟩ := hcut
     obtain ⟨d2, hd2⟩ := HD4.out
     have KO2 := Lib.hid (KO.out _ _ _ _ hd2)
     clear hd2 HD4 HD3 HBB KOF KO
     go_wp2_with fail
     refine KO2.out.mono ?_
     intro e w7 h7
     rcases h7 with ⟨code, rfl, ⟨d3, hd3⟩, rfl | ⟨rfl, rfl⟩⟩ | ⟨b3, d3, rfl, hdn, hb7, R, Q, ep, hR, hQ, hP, HW⟩
     ·have HE := Lib.hid (HFIN.out _ hd3.2.2.2.1)
      clear hd3
      go_wp2_with fail
      go_ret
      exact ⟨by first | rfl | simp, HE.out⟩
     ·have KSC2 := Lib.hid (KSC.out _ _ _ hd3)
      have HE := Lib.hid (HFIN.out _ hd3.2.2.2.1)
      clear hd3
      go_wp2_with fail
      refine KSC2.out.mono ?_
      rintro e w8 ⟨rfl, rfl⟩
      go_wp2_with fail
      go_ret
      exact ⟨by first | rfl | simp, HE.out⟩
     ·unfold sp at *
      have HR := Lib.hid hP
      have HW := Lib.hid HW
      have HDN := Lib.hid hdn
      have HB7 := Lib.hid hb7
      obtain ⟨m2, hm2⟩ : ∃ m2, R.length = m2 := ⟨_, rfl⟩
      obtain ⟨m3, hm3⟩ : ∃ m3, Q.length = m3 := ⟨_, rfl⟩
      have HM2 := Lib.hid hm2
      have HM3 := Lib.hid hm3
      rw [hm2, hm3] at HW
      rw [hm2] at hR
      rw [hm3] at hQ
      have KR7 := Lib.hid (HW.out w7 (Below.refl _ _)).2.1
      clear hP hdn hm2 hm3 hb7
      go_wp2_with fail
      refine KR7.out.mono ?_
      rintro e w8 ⟨v8, rfl, S8, hb8⟩
      have O8 := Lib.hid hb8
      obtain ⟨VA, vc, rfl, _⟩ := S8.val
      have HI := Lib.hid (fun (W : World) (hW : Below w8.heap.size w8 W) => ints_sl (S8.below hW))
      clear S8 hb8 KR7
      go_wp2_with fail
      go_loopw [14] (fun kv wr => ∃ k : Nat, k ≤ m2 ∧ kv = .int .i64 k ∧ Hid (Below w8.heap.size w8 wr)) (fun kv _ => m2 - (intOf kv).toNat)
      case atStart => exact ⟨0, Nat.zero_le _, rfl, Lib.hid (Below.refl _ _)⟩
      case round =>
       obtain ⟨k, hk, rfl, O⟩ := hrel
       by_cases hkm : k < m2
       ·have hkI : (k : Int) < (m2 : Int) := by omega
        obtain ⟨x, hx⟩ : ∃ x, R[k]? = some x := ⟨_, List.getElem?_eq_getElem (by rw [HM2.out]; exact hkm)⟩
        obtain ⟨p1, p2, q, kq, sq, p3, p4, p6⟩ := HR.out k x hx
        obtain ⟨xn, rfl⟩ := Int.eq_ofNat_of_zero_le p1
        obtain ⟨ad2, rfl, hc⟩ := HI.out wr O.out k _ hx
        have HX := Lib.hid (fun (W : World) (hW : Below w8.heap.size w8 W) => (show W.cell? (ad2.add k) = some (.int .i64 (xn : Nat)) from by
         obtain ⟨a, e, h⟩ := HI.out W hW k _ hx
         injection e with e
         rw [e]; exact h))
        rw [show ((xn : Nat) : Int).toNat = xn from by omega] at p3
        have KB8 := Lib.hid (KBY.out wr L2 n2 d3 (HW.out wr (bstep O8.out O.out)).1 HDN.out xn (by omega))
        have KG8 := Lib.hid (fun (W : World) => by
         have h := Pg.rget_any (w := W) ⟨((d3.now.drop (64 * (2 + 4 * xn))).take 256).toArray⟩
         have p3' : gotF (⟨((d3.now.drop (64 * (2 + 4 * xn))).take 256).toArray⟩ : ByteArray).data.toList = (⟨(xn : Nat), q, kq, sq⟩, 0) := p3
         rw [p3'] at h
         exact h)
        have ek : IntKind.i64.wrap ((k : Int) + 1) = ((k + 1 : Nat) : Int) := IntWalk.i64_in _ (by omega)
        have hq : decide (ep < q) = false := by rw [decide_eq_false_iff_not]; omega
        generalize (⟨((d3.now.drop (64 * (2 + 4 * xn))).take 256).toArray⟩ : ByteArray) = BB at KB8 KG8
        unfold PG.val pageV at KG8
        dsimp only at KG8
        generalize (⟨sq.toArray⟩ : ByteArray) = SS at KG8
        have HKD := Lib.hid p6
        clear p1 p2 p3 p4 p6
        go_wp2_with fail
        refine KB8.out.mono ?_
        rintro e wy ⟨rfl, rfl⟩
        go_wp2_with fail
        refine (KG8.out _).mono ?_
        rintro e w9 ⟨rfl, hb9⟩
        have O9 := Lib.hid (bstep O.out hb9)
        clear hb9 hc
        go_wp2_with fail
        obtain ⟨zp, hzp⟩ : ∃ p, w9.heap.size = p := ⟨_, rfl⟩
        have B9 := Blk.new w9 55 #[.int .i64 (xn : Nat), .int .i64 q, .int .i64 kq, .string SS]
        have b9 := Rt.belowAlloc (Below.refl w9.heap.size w9) (.cells #[.int .i64 (xn : Nat), .int .i64 q, .int .i64 kq, .string SS] 55)
        generalize hwa : w9.alloc (.cells #[.int .i64 (xn : Nat), .int .i64 q, .int .i64 kq, .string SS] 55) = wa at *
        clear hwa
        rw [hzp] at B9 ⊢
        have ON := Lib.hid (bstep O9.out b9).drew
        have P9 := Lib.hid (fun (W : World) (hW : Below wa.heap.size wa W) => (show W.cell? ⟨zp, 0, none⟩ = some (.int .i64 (xn : Nat)) ∧ W.cell? ⟨zp, 1, none⟩ = some (.int .i64 q) ∧ W.cell? ⟨zp, 2, none⟩ = some (.int .i64 kq) from ⟨(Blk.below B9 hW B9.lt).cell_some (i := 0) rfl, (Blk.below B9 hW B9.lt).cell_some (i := 1) rfl, (Blk.below B9 hW B9.lt).cell_some (i := 2) rfl⟩))
        have D9 := Lib.hid (Below.refl wa.heap.size wa).drew
        have X9 := Lib.hid (HX.out wa.drew ON.out)
        have KE8 := Lib.hid (HW.out wa.drew (bstep O8.out ON.out)).2.2.2.1
        have hkd := HKD.out
        clear HKD
        rcases hkd with rfl | rfl
        ·have OS := Lib.hid (show (fun W' => W'.cell? (ad2.add k) = some (.int .i64 (xn : Nat)) ∧ W'.cell? ⟨zp, 0, none⟩ = some (.int .i64 (xn : Nat)) ∧ W'.cell? ⟨zp, 1, none⟩ = some (.int .i64 q) ∧ W'.cell? ⟨zp, 2, none⟩ = some (.int .i64 1)) wa.drew from ⟨X9.out, P9.out _ D9.out⟩)
         clear b9 B9 hzp
         refine wp_region_held_drew (S := fun W' => W'.cell? (ad2.add k) = some (.int .i64 (xn : Nat)) ∧ W'.cell? ⟨zp, 0, none⟩ = some (.int .i64 (xn : Nat)) ∧ W'.cell? ⟨zp, 1, none⟩ = some (.int .i64 q) ∧ W'.cell? ⟨zp, 2, none⟩ = some (.int .i64 1)) (by kernel_rfl) (OS.out) (fun hHeld => ?_)
         refine tkf (i := 0) (oi := ⟨some 126, _, _, _, _, _⟩) (v := ?_) rfl (by kernel_rfl) (fun _ _ _ h => h) (by assumption) ?_ ?_
         rotate_left
         ·(intro w hS; (try dsimp only at hS); go_simp; try with_reducible rfl)
         try simp only [Act.put, pa, pb, pc]
         refine tkf (i := 1) (oi := ⟨some 127, _, _, _, _, _⟩) (v := ?_) rfl (by kernel_rfl) (fun _ _ _ h => h) (by assumption) ?_ ?_
         rotate_left
         ·(intro w hS; (try dsimp only at hS); go_simp; try with_reducible rfl)
         try simp only [Act.put, pa, pb, pc]
         refine tkf (i := 2) (oi := ⟨some 128, _, _, _, _, _⟩) (v := ?_) rfl (by kernel_rfl) (fun _ _ _ h => h) (by assumption) ?_ ?_
         rotate_left
         ·(intro w hS; (try dsimp only at hS); go_simp; try with_reducible rfl)
         try simp only [Act.put, pa, pb, pc]
         refine tkf (i := 3) (oi := ⟨some 129, _, _, _, _, _⟩) (v := ?_) rfl (by kernel_rfl) (fun _ _ _ h => h) (by assumption) ?_ ?_
         rotate_left
         ·(intro w hS; (try dsimp only at hS); go_simp; try with_reducible rfl)
         try simp only [Act.put, pa, pb, pc]
         refine tkf (i := 4) (oi := ⟨some 130, _, _, _, _, _⟩) (v := ?_) rfl (by kernel_rfl) (fun _ _ _ h => h) (by assumption) ?_ ?_
         rotate_left
         ·(intro w hS; (try dsimp only at hS); go_simp; try with_reducible rfl)
         try simp only [Act.put, pa, pb, pc]
         refine tkf (i := 5) (oi := ⟨some 131, _, _, _, _, _⟩) (v := ?_) rfl (by kernel_rfl) (fun _ _ _ h => h) (by assumption) ?_ ?_
         rotate_left
         ·(intro w hS; (try dsimp only at hS); go_simp; try with_reducible rfl)
         try simp only [Act.put, pa, pb, pc]
         refine tkf (i := 6) (oi := ⟨some 132, _, _, _, _, _⟩) (v := ?_) rfl (by kernel_rfl) (fun _ _ _ h => h) (by assumption) ?_ ?_
         rotate_left
         ·(intro w hS; (try dsimp only at hS); go_simp; try with_reducible rfl)
         try simp only [Act.put, pa, pb, pc]
         refine tkf (i := 7) (oi := ⟨some 133, _, _, _, _, _⟩) (v := ?_) rfl (by kernel_rfl) (fun _ _ _ h => h) (by assumption) ?_ ?_
         rotate_left
         ·(intro w hS; (try dsimp only at hS); go_simp; try with_reducible rfl)
         try simp only [Act.put, pa, pb, pc]
         refine tkf (i := 8) (oi := ⟨some 134, _, _, _, _, _⟩) (v := ?_) rfl (by kernel_rfl) (fun _ _ _ h => h) (by assumption) ?_ ?_
         rotate_left
         ·(intro w hS; (try dsimp only at hS); go_simp; try with_reducible rfl)
         try simp only [Act.put, pa, pb, pc]
         refine tkf (i := 9) (oi := ⟨some 135, _, _, _, _, _⟩) (v := ?_) rfl (by kernel_rfl) (fun _ _ _ h => h) (by assumption) ?_ ?_
         rotate_left
         ·(intro w hS; (try dsimp only at hS); go_simp; try with_reducible rfl)
         try simp only [Act.put, pa, pb, pc]
         refine tkf (i := 10) (oi := ⟨some 136, _, _, _, _, _⟩) (v := ?_) rfl (by kernel_rfl) (fun _ _ _ h => h) (by assumption) ?_ ?_
         rotate_left
         ·(intro w hS; (try dsimp only at hS); go_simp; try with_reducible rfl)
         try simp only [Act.put, pa, pb, pc]
         refine tkf (i := 11) (oi := ⟨some 137, _, _, _, _, _⟩) (v := ?_) rfl (by kernel_rfl) (fun _ _ _ h => h) (by assumption) ?_ ?_
         rotate_left
         ·(intro w hS; (try dsimp only at hS); go_simp; try with_reducible rfl)
         try simp only [Act.put, pa, pb, pc]
         refine tkf (i := 12) (oi := ⟨some 138, _, _, _, _, _⟩) (v := ?_) rfl (by kernel_rfl) (fun _ _ _ h => h) (by assumption) ?_ ?_
         rotate_left
         ·(intro w hS; (try dsimp only at hS); go_simp; try with_reducible rfl)
         try simp only [Act.put, pa, pb, pc]
         refine tkf (i := 13) (oi := ⟨some 139, _, _, _, _, _⟩) (v := ?_) rfl (by kernel_rfl) (fun _ _ _ h => h) (by assumption) ?_ ?_
         rotate_left
         ·(intro w hS; (try dsimp only at hS); go_simp; try with_reducible rfl)
         try simp only [Act.put, pa, pb, pc]
         refine tkf (i := 14) (oi := ⟨some 140, _, _, _, _, _⟩) (v := ?_) rfl (by kernel_rfl) (fun _ _ _ h => h) (by assumption) ?_ ?_
         rotate_left
         ·(intro w hS; (try dsimp only at hS); go_simp; try with_reducible rfl)
         try simp only [Act.put, pa, pb, pc]
         refine wpAnyH_ready (rs := [15]) (by kernel_rfl) (by simp) ?_
         refine AllReadyH.cons (o := ⟨some 141, _, _, _, _, _⟩) rfl (fun K hK => ?_) AllReadyH.nil
         go_simp
         go_at_call 27
         refine KE8.out.mono ?_
         rintro e wz ⟨rfl, rfl⟩
         go_simp
         refine hK.out _ _ (OS.out) (fun hHeld => ?_)
         try simp only [Act.put, pa, pb, pc]
         refine tkf (i := 16) (oi := ⟨some 142, _, _, _, _, _⟩) (v := ?_) rfl (by kernel_rfl) (fun _ _ _ h => h) (by assumption) ?_ ?_
         rotate_left
         ·(intro w hS; (try dsimp only at hS); go_simp; try with_reducible rfl)
         try simp only [Act.put, pa, pb, pc]
         refine tkf (i := 17) (oi := ⟨some 143, _, _, _, _, _⟩) (v := ?_) rfl (by kernel_rfl) (fun _ _ _ h => h) (by assumption) ?_ ?_
         rotate_left
         ·(intro w hS; (try dsimp only at hS); go_simp; try with_reducible rfl)
         try simp only [Act.put, pa, pb, pc]
         refine tkf (i := 18) (oi := ⟨some 144, _, _, _, _, _⟩) (v := ?_) rfl (by kernel_rfl) (fun _ _ _ h => h) (by assumption) ?_ ?_
         rotate_left
         ·(intro w hS; (try dsimp only at hS); go_simp; try with_reducible rfl)
         try simp only [Act.put, pa, pb, pc]
         refine tkf (i := 19) (oi := ⟨some 145, _, _, _, _, _⟩) (v := ?_) rfl (by kernel_rfl) (fun _ _ _ h => h) (by assumption) ?_ ?_
         rotate_left
         ·(intro w hS; (try dsimp only at hS); go_simp; try with_reducible rfl)
         try simp only [Act.put, pa, pb, pc]
         refine tkf (i := 20) (oi := ⟨some 146, _, _, _, _, _⟩) (v := ?_) rfl (by kernel_rfl) (fun _ _ _ h => h) (by assumption) ?_ ?_
         rotate_left
         ·(intro w hS; (try dsimp only at hS); go_simp; try with_reducible rfl)
         try simp only [Act.put, pa, pb, pc]
         refine tkf (i := 21) (oi := ⟨some 147, _, _, _, _, _⟩) (v := ?_) rfl (by kernel_rfl) (fun _ _ _ h => h) (by assumption) ?_ ?_
         rotate_left
         ·(intro w hS; (try dsimp only at hS); go_simp; try with_reducible rfl)
         try simp only [Act.put, pa, pb, pc]
         refine tkf (i := 22) (oi := ⟨some 148, _, _, _, _, _⟩) (v := ?_) rfl (by kernel_rfl) (fun _ _ _ h => h) (by assumption) ?_ ?_
         rotate_left
         ·(intro w hS; (try dsimp only at hS); go_simp; try with_reducible rfl)
         try simp only [Act.put, pa, pb, pc]
         refine tkf (i := 23) (oi := ⟨some 149, _, _, _, _, _⟩) (v := ?_) rfl (by kernel_rfl) (fun _ _ _ h => h) (by assumption) ?_ ?_
         rotate_left
         ·(intro w hS; (try dsimp only at hS); go_simp; try with_reducible rfl)
         try simp only [Act.put, pa, pb, pc]
         refine tkf (i := 24) (oi := ⟨some 150, _, _, _, _, _⟩) (v := ?_) rfl (by kernel_rfl) (fun _ _ _ h => h) (by assumption) ?_ ?_
         rotate_left
         ·(intro w hS; (try dsimp only at hS); go_simp; try with_reducible rfl)
         try simp only [Act.put, pa, pb, pc]
         refine tkf (i := 25) (oi := ⟨some 151, _, _, _, _, _⟩) (v := ?_) rfl (by kernel_rfl) (fun _ _ _ h => h) (by assumption) ?_ ?_
         rotate_left
         ·(intro w hS; (try dsimp only at hS); go_simp; try with_reducible rfl)
         try simp only [Act.put, pa, pb, pc]
         refine tkf (i := 26) (oi := ⟨some 152, _, _, _, _, _⟩) (v := ?_) rfl (by kernel_rfl) (fun _ _ _ h => h) (by assumption) ?_ ?_
         rotate_left
         ·(intro w hS; (try dsimp only at hS); go_simp; try with_reducible rfl)
         try simp only [Act.put, pa, pb, pc]
         refine tkf (i := 27) (oi := ⟨some 153, _, _, _, _, _⟩) (v := ?_) rfl (by kernel_rfl) (fun _ _ _ h => h) (by assumption) ?_ ?_
         rotate_left
         ·(intro w hS; (try dsimp only at hS); go_simp; try with_reducible rfl)
         try simp only [Act.put, pa, pb, pc]
         refine wpAnyH_done (by kernel_rfl) ?_ _
         go_wp2_with fail
         go_roundw
         case rel => exact ⟨k + 1, by omega, by go_num, ON⟩
         case measure => simp [intOf]; omega
        ·have OS := Lib.hid (show (fun W' => W'.cell? (ad2.add k) = some (.int .i64 (xn : Nat)) ∧ W'.cell? ⟨zp, 0, none⟩ = some (.int .i64 (xn : Nat)) ∧ W'.cell? ⟨zp, 1, none⟩ = some (.int .i64 q) ∧ W'.cell? ⟨zp, 2, none⟩ = some (.int .i64 2)) wa.drew from ⟨X9.out, P9.out _ D9.out⟩)
         clear b9 B9 hzp
         refine wp_region_held_drew (S := fun W' => W'.cell? (ad2.add k) = some (.int .i64 (xn : Nat)) ∧ W'.cell? ⟨zp, 0, none⟩ = some (.int .i64 (xn : Nat)) ∧ W'.cell? ⟨zp, 1, none⟩ = some (.int .i64 q) ∧ W'.cell? ⟨zp, 2, none⟩ = some (.int .i64 2)) (by kernel_rfl) (OS.out) (fun hHeld => ?_)
         refine tkf (i := 0) (oi := ⟨some 126, _, _, _, _, _⟩) (v := ?_) rfl (by kernel_rfl) (fun _ _ _ h => h) (by assumption) ?_ ?_
         rotate_left
         ·(intro w hS; (try dsimp only at hS); go_simp; try with_reducible rfl)
         try simp only [Act.put, pa, pb, pc]
         refine tkf (i := 1) (oi := ⟨some 127, _, _, _, _, _⟩) (v := ?_) rfl (by kernel_rfl) (fun _ _ _ h => h) (by assumption) ?_ ?_
         rotate_left
         ·(intro w hS; (try dsimp only at hS); go_simp; try with_reducible rfl)
         try simp only [Act.put, pa, pb, pc]
         refine tkf (i := 2) (oi := ⟨some 128, _, _, _, _, _⟩) (v := ?_) rfl (by kernel_rfl) (fun _ _ _ h => h) (by assumption) ?_ ?_
         rotate_left
         ·(intro w hS; (try dsimp only at hS); go_simp; try with_reducible rfl)
         try simp only [Act.put, pa, pb, pc]
         refine tkf (i := 3) (oi := ⟨some 129, _, _, _, _, _⟩) (v := ?_) rfl (by kernel_rfl) (fun _ _ _ h => h) (by assumption) ?_ ?_
         rotate_left
         ·(intro w hS; (try dsimp only at hS); go_simp; try with_reducible rfl)
         try simp only [Act.put, pa, pb, pc]
         refine tkf (i := 4) (oi := ⟨some 130, _, _, _, _, _⟩) (v := ?_) rfl (by kernel_rfl) (fun _ _ _ h => h) (by assumption) ?_ ?_
         rotate_left
         ·(intro w hS; (try dsimp only at hS); go_simp; try with_reducible rfl)
         try simp only [Act.put, pa, pb, pc]
         refine tkf (i := 5) (oi := ⟨some 131, _, _, _, _, _⟩) (v := ?_) rfl (by kernel_rfl) (fun _ _ _ h => h) (by assumption) ?_ ?_
         rotate_left
         ·(intro w hS; (try dsimp only at hS); go_simp; try with_reducible rfl)
         try simp only [Act.put, pa, pb, pc]
         refine tkf (i := 6) (oi := ⟨some 132, _, _, _, _, _⟩) (v := ?_) rfl (by kernel_rfl) (fun _ _ _ h => h) (by assumption) ?_ ?_
         rotate_left
         ·(intro w hS; (try dsimp only at hS); go_simp; try with_reducible rfl)
         try simp only [Act.put, pa, pb, pc]
         refine tkf (i := 7) (oi := ⟨some 133, _, _, _, _, _⟩) (v := ?_) rfl (by kernel_rfl) (fun _ _ _ h => h) (by assumption) ?_ ?_
         rotate_left
         ·(intro w hS; (try dsimp only at hS); go_simp; try with_reducible rfl)
         try simp only [Act.put, pa, pb, pc]
         refine tkf (i := 8) (oi := ⟨some 134, _, _, _, _, _⟩) (v := ?_) rfl (by kernel_rfl) (fun _ _ _ h => h) (by assumption) ?_ ?_
         rotate_left
         ·(intro w hS; (try dsimp only at hS); go_simp; try with_reducible rfl)
         try simp only [Act.put, pa, pb, pc]
         refine tkf (i := 9) (oi := ⟨some 135, _, _, _, _, _⟩) (v := ?_) rfl (by kernel_rfl) (fun _ _ _ h => h) (by assumption) ?_ ?_
         rotate_left
         ·(intro w hS; (try dsimp only at hS); go_simp; try with_reducible rfl)
         try simp only [Act.put, pa, pb, pc]
         refine tkf (i := 10) (oi := ⟨some 136, _, _, _, _, _⟩) (v := ?_) rfl (by kernel_rfl) (fun _ _ _ h => h) (by assumption) ?_ ?_
         rotate_left
         ·(intro w hS; (try dsimp only at hS); go_simp; try with_reducible rfl)
         try simp only [Act.put, pa, pb, pc]
         refine tkf (i := 11) (oi := ⟨some 137, _, _, _, _, _⟩) (v := ?_) rfl (by kernel_rfl) (fun _ _ _ h => h) (by assumption) ?_ ?_
         rotate_left
         ·(intro w hS; (try dsimp only at hS); go_simp; try with_reducible rfl)
         try simp only [Act.put, pa, pb, pc]
         refine tkf (i := 12) (oi := ⟨some 138, _, _, _, _, _⟩) (v := ?_) rfl (by kernel_rfl) (fun _ _ _ h => h) (by assumption) ?_ ?_
         rotate_left
         ·(intro w hS; (try dsimp only at hS); go_simp; try with_reducible rfl)
         try simp only [Act.put, pa, pb, pc]
         refine tkf (i := 13) (oi := ⟨some 139, _, _, _, _, _⟩) (v := ?_) rfl (by kernel_rfl) (fun _ _ _ h => h) (by assumption) ?_ ?_
         rotate_left
         ·(intro w hS; (try dsimp only at hS); go_simp; try with_reducible rfl)
         try simp only [Act.put, pa, pb, pc]
         refine tkf (i := 14) (oi := ⟨some 140, _, _, _, _, _⟩) (v := ?_) rfl (by kernel_rfl) (fun _ _ _ h => h) (by assumption) ?_ ?_
         rotate_left
         ·(intro w hS; (try dsimp only at hS); go_simp; try with_reducible rfl)
         try simp only [Act.put, pa, pb, pc]
         refine wpAnyH_ready (rs := [15]) (by kernel_rfl) (by simp) ?_
         refine AllReadyH.cons (o := ⟨some 141, _, _, _, _, _⟩) rfl (fun K hK => ?_) AllReadyH.nil
         go_simp
         go_at_call 27
         refine KE8.out.mono ?_
         rintro e wz ⟨rfl, rfl⟩
         go_simp
         refine hK.out _ _ (OS.out) (fun hHeld => ?_)
         try simp only [Act.put, pa, pb, pc]
         refine tkf (i := 16) (oi := ⟨some 142, _, _, _, _, _⟩) (v := ?_) rfl (by kernel_rfl) (fun _ _ _ h => h) (by assumption) ?_ ?_
         rotate_left
         ·(intro w hS; (try dsimp only at hS); go_simp; try with_reducible rfl)
         try simp only [Act.put, pa, pb, pc]
         refine tkf (i := 17) (oi := ⟨some 143, _, _, _, _, _⟩) (v := ?_) rfl (by kernel_rfl) (fun _ _ _ h => h) (by assumption) ?_ ?_
         rotate_left
         ·(intro w hS; (try dsimp only at hS); go_simp; try with_reducible rfl)
         try simp only [Act.put, pa, pb, pc]
         refine tkf (i := 18) (oi := ⟨some 144, _, _, _, _, _⟩) (v := ?_) rfl (by kernel_rfl) (fun _ _ _ h => h) (by assumption) ?_ ?_
         rotate_left
         ·(intro w hS; (try dsimp only at hS); go_simp; try with_reducible rfl)
         try simp only [Act.put, pa, pb, pc]
         refine tkf (i := 19) (oi := ⟨some 145, _, _, _, _, _⟩) (v := ?_) rfl (by kernel_rfl) (fun _ _ _ h => h) (by assumption) ?_ ?_
         rotate_left
         ·(intro w hS; (try dsimp only at hS); go_simp; try with_reducible rfl)
         try simp only [Act.put, pa, pb, pc]
         refine tkf (i := 20) (oi := ⟨some 146, _, _, _, _, _⟩) (v := ?_) rfl (by kernel_rfl) (fun _ _ _ h => h) (by assumption) ?_ ?_
         rotate_left
         ·(intro w hS; (try dsimp only at hS); go_simp; try with_reducible rfl)
         try simp only [Act.put, pa, pb, pc]
         refine tkf (i := 21) (oi := ⟨some 147, _, _, _, _, _⟩) (v := ?_) rfl (by kernel_rfl) (fun _ _ _ h => h) (by assumption) ?_ ?_
         rotate_left
         ·(intro w hS; (try dsimp only at hS); go_simp; try with_reducible rfl)
         try simp only [Act.put, pa, pb, pc]
         refine tkf (i := 22) (oi := ⟨some 148, _, _, _, _, _⟩) (v := ?_) rfl (by kernel_rfl) (fun _ _ _ h => h) (by assumption) ?_ ?_
         rotate_left
         ·(intro w hS; (try dsimp only at hS); go_simp; try with_reducible rfl)
         try simp only [Act.put, pa, pb, pc]
         refine tks (i := 23) (oi := ⟨some 149, _, _, _, _, _⟩) rfl (by kernel_rfl) (fun _ _ _ h => h) (by assumption) ?_
         try simp only [Act.put, pa, pb, pc]
         refine tks (i := 24) (oi := ⟨some 150, _, _, _, _, _⟩) rfl (by kernel_rfl) (fun _ _ _ h => h) (by assumption) ?_
         try simp only [Act.put, pa, pb, pc]
         refine tks (i := 25) (oi := ⟨some 151, _, _, _, _, _⟩) rfl (by kernel_rfl) (fun _ _ _ h => h) (by assumption) ?_
         try simp only [Act.put, pa, pb, pc]
         refine tkf (i := 26) (oi := ⟨some 152, _, _, _, _, _⟩) (v := ?_) rfl (by kernel_rfl) (fun _ _ _ h => h) (by assumption) ?_ ?_
         rotate_left
         ·(intro w hS; (try dsimp only at hS); go_simp; try with_reducible rfl)
         try simp only [Act.put, pa, pb, pc]
         refine tkf (i := 27) (oi := ⟨some 153, _, _, _, _, _⟩) (v := ?_) rfl (by kernel_rfl) (fun _ _ _ h => h) (by assumption) ?_ ?_
         rotate_left
         ·(intro w hS; (try dsimp only at hS); go_simp; try with_reducible rfl)
         try simp only [Act.put, pa, pb, pc]
         refine wpAnyH_done (by kernel_rfl) ?_ _
         go_wp2_with fail
         go_roundw
         case rel => exact ⟨k + 1, by omega, by go_num, ON⟩
         case measure => simp [intOf]; omega
       ·have hkI : ¬ (k : Int) < (m2 : Int) := by omega
        have KP8 := Lib.hid (HW.out wr (bstep O8.out O.out)).2.2.1
        go_wp2_with fail
        refine KP8.out.mono ?_
        rintro e w9 ⟨v9, rfl, S9, hb9⟩
        have O9 := Lib.hid (bstep (bstep O8.out O.out) hb9)
        obtain ⟨VB, vd, rfl, _⟩ := S9.val
        have HI9 := Lib.hid (fun (W : World) (hW : Below w9.heap.size w9 W) => ints_sl (S9.below hW))
        clear S9 hb9 KP8
        go_wp2_with fail
        go_loopw [157, 18] (fun jv _ wr => ∃ j : Nat, j ≤ m3 ∧ jv = .int .i64 j ∧ Hid (Below w9.heap.size w9 wr)) (fun jv _ _ => m3 - (intOf jv).toNat)
        case atStart => exact ⟨0, Nat.zero_le _, rfl, Lib.hid (Below.refl _ _)⟩
        case round =>
         obtain ⟨j, hj, rfl, Oj⟩ := hrel
         by_cases hjm : j < m3
         ·have hjI : (j : Int) < (m3 : Int) := by omega
          obtain ⟨yq, hyq⟩ : ∃ x, Q[j]? = some x := ⟨_, List.getElem?_eq_getElem (by rw [HM3.out]; exact hjm)⟩
          obtain ⟨ad3, rfl, hc3⟩ := HI9.out _ Oj.out j _ hyq
          have KRD := Lib.hid ((HW.out _ (bstep O9.out Oj.out)).2.2.2.2 j yq hyq)
          have ej : IntKind.i64.wrap ((j : Int) + 1) = ((j + 1 : Nat) : Int) := IntWalk.i64_in _ (by omega)
          go_wp2_with fail
          refine KRD.out.mono ?_
          rintro e wz ⟨sz, rfl, hbz⟩
          have Oz := Lib.hid (bstep Oj.out hbz)
          clear hbz hc3
          go_wp2_with fail
          go_roundw
          case rel => exact ⟨j + 1, by omega, by go_num, Oz⟩
          case measure => simp [intOf]; omega
         ·have hjI : ¬ (j : Int) < (m3 : Int) := by omega
          have HE := Lib.hid (HFIN.out _ (bstep HB7.out (bstep O9.out Oj.out)))
          go_wp2_with fail
          go_ret
          exact ⟨by first | rfl | simp, HE.out⟩
end Go.Proofs.YtbelcgjbhpjnpaaGreat.Sh
